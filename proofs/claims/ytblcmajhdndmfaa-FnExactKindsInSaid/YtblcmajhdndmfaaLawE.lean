/- Contracts of the laws' own helpers: equality of rows of numbers, texts and paths. -/
import Derived.Test.YtblcmajhdndmfaaLaw3
import Derived.Test.YtblcmajhdndmfaaBytes
import Derived.Test.YtblcmajhdndmfaaFind
import Derived.BigQuiet
import Derived.Deep.QuietTactic
import Derived.StillTailTactics
namespace Go.Proofs.Ytblcmajhdndmfaa
open Go.RowKit
set_option linter.unusedVariables false
set_option maxRecDepth 100000

theorem eqIntS_any (xs ys : List Int) (A A' : Option Addr) (c c' : Nat) (w : World) (hx : SA w xs A c) (hy : SA w ys A' c') :
    Calls Try.prog 40 #[.slice A xs.length c, .slice A' ys.length c'] w (Ret w (.bool (decide (xs = ys)))) := by
  obtain ⟨r, hr⟩ : ∃ r, r = decide (xs = ys) := ⟨_, rfl⟩
  rw [← hr]
  have R := Lib.hid hr; clear hr
  have hl : xs.length ≤ 9223372036854775807 := by have := hx.len; unfold maxLen at this; omega
  have hl' : ys.length ≤ 9223372036854775807 := by have := hy.len; unfold maxLen at this; omega
  have E := Lib.hid (And.intro hx hy); clear hx hy
  by_cases he : xs.length = ys.length
  · have he' : ((xs.length : Int) != ys.length) = false := by simp [he]
    have HE := Lib.hid he; clear he
    go_enter Try.func40, Try.ntmps40
    go_wp2_with fail
    go_loopg [5] xs.length (fun gk i wr => ∃ k : Nat, k ≤ xs.length ∧ i = .int .i64 k ∧ gk = xs.length - k ∧ Hid (xs.take k = ys.take k) ∧ Below w.heap.size w wr)
    case atStart => exact ⟨0, by omega, rfl, by omega, rfl, bRf w⟩
    case round =>
      obtain ⟨k, hk, rfl, rfl, hT, hbel⟩ := hrel
      by_cases hlt : k < xs.length
      · obtain ⟨b, off, rfl, hb, hI, k0⟩ := (E.out.1.below hbel).int_at hlt
        have hlt' : k < ys.length := HE.out ▸ hlt
        obtain ⟨b', off', rfl, hb', hI', k0'⟩ := (E.out.2.below hbel).int_at hlt'
        have hi1 : (k : Int) < xs.length := by omega
        have hi2 : (k : Int) < ys.length := by omega
        have hi3 : (0 : Int) ≤ k := by omega
        rcases Decidable.em (xs[k] = ys[k]) with hq | hq
        · have HQ := Lib.hid hq; clear hq
          have hne : ((xs[k] : Int) != ys[k]) = false := by rw [HQ.out]; simp
          go_wp2_with fail
          go_quiet (fail)
          go_wp2_with fail
          go_roundg (xs.length - (k + 1))
          case measure => omega
          case rel => exact ⟨k + 1, by omega, by go_num, rfl, take_snoc_eq hlt hlt' hT.out HQ.out, below_drewN hbel _⟩
        · have HQ := Lib.hid hq; clear hq
          have hne : ((xs[k] : Int) != ys[k]) = true := by have := HQ.out; simp only [bne_iff_ne, ne_eq]; exact this
          go_wp2_with fail
          go_quiet (fail)
          go_wp2_with fail
          go_ret
          exact ⟨by rw [R.out, decide_eq_false (fun h => HQ.out (by subst h; rfl))]; rfl, below_drewN hbel _⟩
      · have e : k = xs.length := by omega
        go_wp2_with fail
        go_ret
        exact ⟨by rw [R.out, decide_eq_true (take_all_eq e HE.out hT.out)]; rfl, hbel⟩
  · have he' : ((xs.length : Int) != ys.length) = true := by simp; omega
    go_enter Try.func40, Try.ntmps40
    go_wp2_with fail
    go_ret
    exact ⟨by rw [R.out, decide_eq_false (fun h => he (by rw [h]))]; rfl, bRf w⟩

theorem eqStringS_any (xs ys : List ByteArray) (A A' : Option Addr) (c c' : Nat) (w : World) (hx : SA w xs A c) (hy : SA w ys A' c') :
    Calls Try.prog 23 #[.slice A xs.length c, .slice A' ys.length c'] w (Ret w (.bool (decide (xs = ys)))) := by
  obtain ⟨r, hr⟩ : ∃ r, r = decide (xs = ys) := ⟨_, rfl⟩
  rw [← hr]
  have R := Lib.hid hr; clear hr
  have hl : xs.length ≤ 9223372036854775807 := by have := hx.len; unfold maxLen at this; omega
  have hl' : ys.length ≤ 9223372036854775807 := by have := hy.len; unfold maxLen at this; omega
  have E := Lib.hid (And.intro hx hy); clear hx hy
  by_cases he : xs.length = ys.length
  · have he' : ((xs.length : Int) != ys.length) = false := by simp [he]
    have HE := Lib.hid he; clear he
    go_enter Try.func23, Try.ntmps23
    go_wp2_with fail
    go_loopg [5] xs.length (fun gk i wr => ∃ k : Nat, k ≤ xs.length ∧ i = .int .i64 k ∧ gk = xs.length - k ∧ Hid (xs.take k = ys.take k) ∧ Below w.heap.size w wr)
    case atStart => exact ⟨0, by omega, rfl, by omega, rfl, bRf w⟩
    case round =>
      obtain ⟨k, hk, rfl, rfl, hT, hbel⟩ := hrel
      by_cases hlt : k < xs.length
      · obtain ⟨b, off, rfl, hb, hI, k0⟩ := (E.out.1.below hbel).str_at hlt
        have hlt' : k < ys.length := HE.out ▸ hlt
        obtain ⟨b', off', rfl, hb', hI', k0'⟩ := (E.out.2.below hbel).str_at hlt'
        have hi1 : (k : Int) < xs.length := by omega
        have hi2 : (k : Int) < ys.length := by omega
        have hi3 : (0 : Int) ≤ k := by omega
        rcases Decidable.em (xs[k] = ys[k]) with hq | hq
        · have HQ := Lib.hid hq; clear hq
          have hne : (xs[k].toList == ys[k].toList) = true := by rw [HQ.out]; simp
          go_wp2_with fail
          go_quiet (fail)
          go_wp2_with fail
          go_roundg (xs.length - (k + 1))
          case measure => omega
          case rel => exact ⟨k + 1, by omega, by go_num, rfl, take_snoc_eq hlt hlt' hT.out HQ.out, below_drewN hbel _⟩
        · have HQ := Lib.hid hq; clear hq
          have hne : (xs[k].toList == ys[k].toList) = false := by have := HQ.out; rw [str_eq]; exact decide_eq_false this
          go_wp2_with fail
          go_quiet (fail)
          go_wp2_with fail
          go_ret
          exact ⟨by rw [R.out, decide_eq_false (fun h => HQ.out (by subst h; rfl))]; rfl, below_drewN hbel _⟩
      · have e : k = xs.length := by omega
        go_wp2_with fail
        go_ret
        exact ⟨by rw [R.out, decide_eq_true (take_all_eq e HE.out hT.out)]; rfl, hbel⟩
  · have he' : ((xs.length : Int) != ys.length) = true := by simp; omega
    go_enter Try.func23, Try.ntmps23
    go_wp2_with fail
    go_ret
    exact ⟨by rw [R.out, decide_eq_false (fun h => he (by rw [h]))]; rfl, bRf w⟩

theorem eqPath_any (x y : List GStep) (A A' : Option Addr) (c c' : Nat) (w : World) (hx : SA w x A c) (hy : SA w y A' c') :
    Calls Try.prog 79 #[.agg #[.slice A x.length c], .agg #[.slice A' y.length c']] w (Ret w (.bool (decide (x = y)))) := by
  have b0 := bAl (bAl (bRf w) (.cells #[.slice A x.length c] 79)) (.cells #[.slice A' y.length c'] 79)
  have E := Lib.hid (And.intro (hx.below b0) (hy.below b0)); clear hx hy
  obtain ⟨r, hr⟩ : ∃ r, r = decide (x = y) := ⟨_, rfl⟩
  rw [← hr]
  have R := Lib.hid hr; clear hr
  cases r
  all_goals
    go_enter Try.func79, Try.ntmps79
    go_wp2_with fail
    refine (eqStepS_any x y A A' c c' _ E.out.1 E.out.2).mono ?_
    rintro e w1 ⟨rfl, hb1⟩
    rw [← R.out]
    go_wp2_with fail
    go_ret
    exact ⟨rfl, bTr b0 hb1⟩

theorem eqPathS_any (xs ys : List (List GStep)) (A A' : Option Addr) (c c' : Nat) (w : World) (hx : SA w xs A c) (hy : SA w ys A' c') :
    Calls Try.prog 35 #[.slice A xs.length c, .slice A' ys.length c'] w (Ret w (.bool (decide (xs = ys)))) := by
  obtain ⟨r, hr⟩ : ∃ r, r = decide (xs = ys) := ⟨_, rfl⟩
  rw [← hr]
  have R := Lib.hid hr; clear hr
  have hl : xs.length ≤ 9223372036854775807 := by have := hx.len; unfold maxLen at this; omega
  have hl' : ys.length ≤ 9223372036854775807 := by have := hy.len; unfold maxLen at this; omega
  have E := Lib.hid (And.intro hx hy); clear hx hy
  by_cases he : xs.length = ys.length
  · have he' : ((xs.length : Int) != ys.length) = false := by simp [he]
    have HE := Lib.hid he; clear he
    go_enter Try.func35, Try.ntmps35
    go_wp2_with fail
    go_loopg [5] xs.length (fun gk i wr => ∃ k : Nat, k ≤ xs.length ∧ i = .int .i64 k ∧ gk = xs.length - k ∧ Hid (xs.take k = ys.take k) ∧ Below w.heap.size w wr)
    case atStart => exact ⟨0, by omega, rfl, by omega, rfl, bRf w⟩
    case round =>
      obtain ⟨k, hk, rfl, rfl, hT, hbel⟩ := hrel
      by_cases hlt : k < xs.length
      · obtain ⟨b, off, A1, c1, rfl, hb, hs, k0⟩ := (E.out.1.below hbel).path_at hlt
        have hlt' : k < ys.length := HE.out ▸ hlt
        obtain ⟨b', off', A2, c2, rfl, hb', hs', k0'⟩ := (E.out.2.below hbel).path_at hlt'
        rcases Decidable.em (xs[k] = ys[k]) with hq | hq
        · have HQ := Lib.hid hq; clear hq
          go_wp2_with fail
          go_still_tail 8, (by kernel_rfl)
          change wpList _ _ _ _ _ wr.drew
          go_wp2_with fail
          refine (eqPath_any xs[k] ys[k] A1 A2 c1 c2 _ hs.drew hs'.drew).mono ?_
          rintro e w1 ⟨rfl, hb1⟩
          rw [decide_eq_true HQ.out]
          go_wp2_with fail
          go_roundg (xs.length - (k + 1))
          case measure => omega
          case rel => exact ⟨k + 1, by omega, by go_num, rfl, take_snoc_eq hlt hlt' hT.out HQ.out, bTr hbel.drew hb1⟩
        · have HQ := Lib.hid hq; clear hq
          go_wp2_with fail
          go_still_tail 8, (by kernel_rfl)
          change wpList _ _ _ _ _ wr.drew
          go_wp2_with fail
          refine (eqPath_any xs[k] ys[k] A1 A2 c1 c2 _ hs.drew hs'.drew).mono ?_
          rintro e w1 ⟨rfl, hb1⟩
          rw [decide_eq_false HQ.out]
          go_wp2_with fail
          go_ret
          exact ⟨by rw [R.out, decide_eq_false (fun h => HQ.out (by subst h; rfl))]; rfl, bTr hbel.drew hb1⟩
      · have e : k = xs.length := by omega
        go_wp2_with fail
        go_ret
        exact ⟨by rw [R.out, decide_eq_true (take_all_eq e HE.out hT.out)]; rfl, hbel⟩
  · have he' : ((xs.length : Int) != ys.length) = true := by simp; omega
    go_enter Try.func35, Try.ntmps35
    go_wp2_with fail
    go_ret
    exact ⟨by rw [R.out, decide_eq_false (fun h => he (by rw [h]))]; rfl, bRf w⟩
end Go.Proofs.Ytblcmajhdndmfaa
