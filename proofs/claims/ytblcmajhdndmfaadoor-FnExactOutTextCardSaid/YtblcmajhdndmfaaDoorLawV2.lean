/- Contracts of the laws' own helpers over trees: equality. -/
import Derived.Test.YtblcmajhdndmfaaDoorLawV
import Derived.BigQuiet
import Derived.Deep.QuietTactic
import Derived.StillTailTactics
namespace Go.Proofs.YtblcmajhdndmfaaDoor
open Go.RowKit
set_option linter.unusedVariables false
set_option maxRecDepth 100000

def EqVal (x : GVal) : Prop := ∀ (y : GVal) (A A' : Option Addr) (c c' : Nat) (w : World), SA w x.l A c → SA w y.l A' c' →
    Calls Tryd.prog 16 #[.agg #[.int .i64 x.kind, .int .i64 x.n, .int .i64 x.x, .string x.s, .slice A x.l.length c], .agg #[.int .i64 y.kind, .int .i64 y.n, .int .i64 y.x, .string y.s, .slice A' y.l.length c']] w (Ret w (.bool (decide (x = y))))

theorem eqValS_of (xs ys : List GVal) (A A' : Option Addr) (c c' : Nat) (w : World) (hx : SA w xs A c) (hy : SA w ys A' c') (IH : ∀ i (hi : i < xs.length), EqVal xs[i]) :
    Calls Tryd.prog 37 #[.slice A xs.length c, .slice A' ys.length c'] w (Ret w (.bool (decide (xs = ys)))) := by
  obtain ⟨r, hr⟩ : ∃ r, r = decide (xs = ys) := ⟨_, rfl⟩
  rw [← hr]
  have R := Lib.hid hr; clear hr
  have IH' := Lib.hid IH; clear IH
  have hl : xs.length ≤ 9223372036854775807 := by have := hx.len; unfold maxLen at this; omega
  have hl' : ys.length ≤ 9223372036854775807 := by have := hy.len; unfold maxLen at this; omega
  have E := Lib.hid (And.intro hx hy); clear hx hy
  by_cases he : xs.length = ys.length
  · have he' : ((xs.length : Int) != ys.length) = false := by simp [he]
    have HE := Lib.hid he; clear he
    go_enter Tryd.func37, Tryd.ntmps37
    go_wp2_with fail
    go_loopg [5] xs.length (fun gk i wr => ∃ k : Nat, k ≤ xs.length ∧ i = .int .i64 k ∧ gk = xs.length - k ∧ Hid (xs.take k = ys.take k) ∧ Below w.heap.size w wr)
    case atStart => exact ⟨0, by omega, rfl, by omega, rfl, bRf w⟩
    case round =>
      obtain ⟨k, hk, rfl, rfl, hT, hbel⟩ := hrel
      by_cases hlt : k < xs.length
      · obtain ⟨b, off, A1, c1, rfl, hb, hI, hs, k0, k1, k2, k3, k4⟩ := (E.out.1.below hbel).val_at hlt
        have hlt' : k < ys.length := HE.out ▸ hlt
        obtain ⟨b', off', A2, c2, rfl, hb', hI', hs', k0', k1', k2', k3', k4'⟩ := (E.out.2.below hbel).val_at hlt'
        have HI := Lib.hid (And.intro hI hI'); clear hI hI'
        rcases Decidable.em (xs[k] = ys[k]) with hq | hq
        · have HQ := Lib.hid hq; clear hq
          go_wp2_with fail
          go_still_tail 8, (by kernel_rfl)
          change wpList _ _ _ _ _ wr.drew
          go_wp2_with fail
          refine (IH'.out k hlt ys[k] A1 A2 c1 c2 _ hs.drew hs'.drew).mono ?_
          rintro e w1 ⟨rfl, hb1⟩
          rw [decide_eq_true HQ.out]
          go_wp2_with fail
          go_roundg (xs.length - (k + 1))
          case measure => omega
          case rel => exact ⟨k + 1, by omega, by go_num, rfl, take_snoc_eq hlt hlt' hT.out HQ.out, bTr hbel.drew hb1⟩
        · have HQ := Lib.hid hq; clear hq
          go_wp2_with fail
          go_still_tail 8, (by kernel_rfl)
          change wpList _ _ _ _ _ wr.drew
          go_wp2_with fail
          refine (IH'.out k hlt ys[k] A1 A2 c1 c2 _ hs.drew hs'.drew).mono ?_
          rintro e w1 ⟨rfl, hb1⟩
          rw [decide_eq_false HQ.out]
          go_wp2_with fail
          go_ret
          exact ⟨by rw [R.out, decide_eq_false (fun h => HQ.out (by subst h; rfl))]; rfl, bTr hbel.drew hb1⟩
      · have e : k = xs.length := by omega
        go_wp2_with fail
        go_ret
        exact ⟨by rw [R.out, decide_eq_true (take_all_eq e HE.out hT.out)]; rfl, hbel⟩
  · have he' : ((xs.length : Int) != ys.length) = true := by simp; omega
    go_enter Tryd.func37, Tryd.ntmps37
    go_wp2_with fail
    go_ret
    exact ⟨by rw [R.out, decide_eq_false (fun h => he (by rw [h]))]; rfl, bRf w⟩

theorem eqVal_ind (x : GVal) : EqVal x := by
  refine GVal.ind (p := EqVal) (fun x IH => ?_) x
  intro y A A' c c' w hx hy
  have b0 := Lib.hid (bAl (bAl (bRf w) (.cells #[.int .i64 x.kind, .int .i64 x.n, .int .i64 x.x, .string x.s, .slice A x.l.length c] 41)) (.cells #[.int .i64 y.kind, .int .i64 y.n, .int .i64 y.x, .string y.s, .slice A' y.l.length c'] 41))
  have E := Lib.hid (And.intro (hx.below b0.out) (hy.below b0.out)); clear hx hy
  obtain ⟨r, hr⟩ : ∃ r, r = decide (x = y) := ⟨_, rfl⟩
  rw [← hr]
  have R := Lib.hid hr; clear hr
  have IH' := Lib.hid IH; clear IH
  by_cases h1 : x.kind = y.kind
  · have h1' : (x.kind != y.kind) = false := by simpa using h1
    have H1 := Lib.hid h1; clear h1
    by_cases h2 : x.n = y.n
    · have h2' : (x.n != y.n) = false := by simpa using h2
      have H2 := Lib.hid h2; clear h2
      by_cases h3 : x.x = y.x
      · have h3' : (x.x != y.x) = false := by simpa using h3
        have H3 := Lib.hid h3; clear h3
        by_cases h4 : x.s = y.s
        · have h4' : (x.s.toList == y.s.toList) = true := by simp [h4]
          have H4 := Lib.hid h4; clear h4
          rcases Decidable.em (x.l = y.l) with h5 | h5
          all_goals
            have H5 := Lib.hid h5; clear h5
            go_enter Tryd.func16, Tryd.ntmps16
            go_wp2_with fail
            refine (eqValS_of x.l y.l A A' c c' _ E.out.1 E.out.2 IH'.out).mono ?_
            rintro e w1 ⟨rfl, hb1⟩
            have b1 := Lib.hid (bTr b0.out hb1); clear hb1
            first | rw [decide_eq_true H5.out] | rw [decide_eq_false H5.out]
            go_wp2_with fail
            go_ret
            exact ⟨by rw [R.out]; first | rw [decide_eq_true (gval_eq H1.out H2.out H3.out H4.out H5.out)]; rfl | rw [decide_eq_false (fun h => H5.out (by rw [h]))]; rfl, b1.out⟩
        · have h4' : (x.s.toList == y.s.toList) = false := by
            have := str_eq (a := x.s) (b := y.s)
            rwa [decide_eq_false h4] at this
          have H4 := Lib.hid h4; clear h4
          go_enter Tryd.func16, Tryd.ntmps16
          go_wp2_with fail
          go_ret
          exact ⟨by rw [R.out, decide_eq_false (fun h => H4.out (by rw [h]))]; rfl, b0.out⟩
      · have h3' : (x.x != y.x) = true := by simpa using h3
        have H3 := Lib.hid h3; clear h3
        go_enter Tryd.func16, Tryd.ntmps16
        go_wp2_with fail
        go_ret
        exact ⟨by rw [R.out, decide_eq_false (fun h => H3.out (by rw [h]))]; rfl, b0.out⟩
    · have h2' : (x.n != y.n) = true := by simpa using h2
      have H2 := Lib.hid h2; clear h2
      go_enter Tryd.func16, Tryd.ntmps16
      go_wp2_with fail
      go_ret
      exact ⟨by rw [R.out, decide_eq_false (fun h => H2.out (by rw [h]))]; rfl, b0.out⟩
  · have h1' : (x.kind != y.kind) = true := by simpa using h1
    have H1 := Lib.hid h1; clear h1
    go_enter Tryd.func16, Tryd.ntmps16
    go_wp2_with fail
    go_ret
    exact ⟨by rw [R.out, decide_eq_false (fun h => H1.out (by rw [h]))]; rfl, b0.out⟩

theorem eqVal_any (x y : GVal) (A A' : Option Addr) (c c' : Nat) (w : World) (hx : SA w x.l A c) (hy : SA w y.l A' c') :
    Calls Tryd.prog 16 #[.agg #[.int .i64 x.kind, .int .i64 x.n, .int .i64 x.x, .string x.s, .slice A x.l.length c], .agg #[.int .i64 y.kind, .int .i64 y.n, .int .i64 y.x, .string y.s, .slice A' y.l.length c']] w (Ret w (.bool (decide (x = y)))) :=
  eqVal_ind x y A A' c c' w hx hy
theorem eqValS_any (xs ys : List GVal) (A A' : Option Addr) (c c' : Nat) (w : World) (hx : SA w xs A c) (hy : SA w ys A' c') :
    Calls Tryd.prog 37 #[.slice A xs.length c, .slice A' ys.length c'] w (Ret w (.bool (decide (xs = ys)))) := eqValS_of xs ys A A' c c' w hx hy fun i hi => eqVal_ind xs[i]
end Go.Proofs.YtblcmajhdndmfaaDoor
