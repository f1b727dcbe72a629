/- Contracts: equality of losses and of outs, in the program and in the reference. -/
import Derived.Test.YtblcmajhdndmfaaLaw3
import Derived.Test.YtblcmajhdndmfaaPathEq
import Derived.Test.YtblcmajhdndmfaaBytes
namespace Go.Proofs.Ytblcmajhdndmfaa
open Go.RowKit
set_option linter.unusedVariables false
set_option maxRecDepth 100000

theorem specSameLosses_any (xs ys : List GLoss) (A A' : Option Addr) (c c' : Nat) (w : World) (hx : SA w xs A c) (hy : SA w ys A' c') :
    Calls Try.prog 50 #[.slice A xs.length c, .slice A' ys.length c'] w (Ret w (.bool (decide (xs = ys)))) := by
  obtain ⟨r, hr⟩ : ∃ r, r = decide (xs = ys) := ⟨_, rfl⟩
  rw [← hr]
  have R := Lib.hid hr; clear hr
  have hl : xs.length ≤ 9223372036854775807 := by have := hx.len; unfold maxLen at this; omega
  have hl' : ys.length ≤ 9223372036854775807 := by have := hy.len; unfold maxLen at this; omega
  have E := Lib.hid (And.intro hx hy); clear hx hy
  by_cases he : xs.length = ys.length
  · have he' : ((xs.length : Int) != ys.length) = false := by simp [he]
    have HE := Lib.hid he; clear he
    go_enter Try.func50, Try.ntmps50
    go_wp2_with fail
    go_loopg [5] xs.length (fun gk i wr => ∃ k : Nat, k ≤ xs.length ∧ i = .int .i64 k ∧ gk = xs.length - k ∧ Hid (xs.take k = ys.take k) ∧ Below w.heap.size w wr)
    case atStart => exact ⟨0, by omega, rfl, by omega, rfl, bRf w⟩
    case round =>
      obtain ⟨k, hk, rfl, rfl, hT, hbel⟩ := hrel
      by_cases hlt : k < xs.length
      · obtain ⟨b, off, A1, c1, rfl, hb, hI, hs, k0, k1⟩ := (E.out.1.below hbel).loss_at hlt
        have hlt' : k < ys.length := HE.out ▸ hlt
        obtain ⟨b', off', A2, c2, rfl, hb', hI', hs', k0', k1'⟩ := (E.out.2.below hbel).loss_at hlt'
        have HS := Lib.hid (And.intro hs hs'); clear hs hs'
        have hi1 : (k : Int) < xs.length := by omega
        have hi2 : (k : Int) < ys.length := by omega
        have hi3 : (0 : Int) ≤ k := by omega
        rcases Decidable.em (xs[k].kind = ys[k].kind) with h1 | h1
        · have h1' : (xs[k].kind != ys[k].kind) = false := by simpa using h1
          have H1 := Lib.hid h1; clear h1
          rcases Decidable.em (xs[k].p = ys[k].p) with h2 | h2
          · have H2 := Lib.hid h2; clear h2
            go_wp2_with fail
            have Q := Lib.hid (quietV fun n => samePath_same H2.out A1 A2 c1 c2 (wr.drewN n) (HS.out.1.drewN n) (HS.out.2.drewN n))
            go_quiet ((go_at_call 89; exact Q.out _))
            go_wp2_with fail
            go_roundg (xs.length - (k + 1))
            case measure => omega
            case rel => exact ⟨k + 1, by omega, by go_num, rfl, take_snoc_eq hlt hlt' hT.out (gloss_eq H1.out H2.out), below_drewN hbel _⟩
          · have H2 := Lib.hid h2; clear h2
            go_wp2_with fail
            have Q := Lib.hid (quietV fun n => samePath_other H2.out A1 A2 c1 c2 (wr.drewN n) (HS.out.1.drewN n) (HS.out.2.drewN n))
            go_quiet ((go_at_call 89; exact Q.out _))
            go_wp2_with fail
            go_ret
            exact ⟨by rw [R.out, decide_eq_false (fun h => H2.out (by subst h; rfl))]; rfl, below_drewN hbel _⟩
        · have h1' : (xs[k].kind != ys[k].kind) = true := by simpa using h1
          have H1 := Lib.hid h1; clear h1
          go_wp2_with fail
          go_quiet (fail)
          go_wp2_with fail
          go_ret
          exact ⟨by rw [R.out, decide_eq_false (fun h => H1.out (by subst h; rfl))]; rfl, below_drewN hbel _⟩
      · have e : k = xs.length := by omega
        go_wp2_with fail
        go_ret
        exact ⟨by rw [R.out, decide_eq_true (take_all_eq e HE.out hT.out)]; rfl, hbel⟩
  · have he' : ((xs.length : Int) != ys.length) = true := by simp; omega
    go_enter Try.func50, Try.ntmps50
    go_wp2_with fail
    go_ret
    exact ⟨by rw [R.out, decide_eq_false (fun h => he (by rw [h]))]; rfl, bRf w⟩

theorem sameLossesF_any (x y : GLoss) (A A' : Option Addr) (c c' : Nat) (w : World) (hx : SA w x.p A c) (hy : SA w y.p A' c') :
    Calls Try.prog 92 #[.agg #[.int .i64 x.kind, .slice A x.p.length c], .agg #[.int .i64 y.kind, .slice A' y.p.length c']] w (Ret w (.bool (decide (x = y)))) := by
  have b0 := Lib.hid (bAl (bAl (bRf w) (.cells #[.int .i64 x.kind, .slice A x.p.length c] 88)) (.cells #[.int .i64 y.kind, .slice A' y.p.length c'] 88))
  have E := Lib.hid (equalStep_any x.p y.p A A' c c' _ (hx.below b0.out) (hy.below b0.out)); clear hx hy
  obtain ⟨r, hr⟩ : ∃ r, r = decide (x = y) := ⟨_, rfl⟩
  rw [← hr]
  have R := Lib.hid hr; clear hr
  rcases Decidable.em (x.kind = y.kind) with h1 | h1
  · have h1' : (x.kind == y.kind) = true := by simpa using h1
    have R' := Lib.hid (R.out.trans (show decide (x = y) = decide (x.p = y.p) by
      by_cases h2 : x.p = y.p
      · rw [decide_eq_true h2, decide_eq_true (gloss_eq h1 h2)]
      · rw [decide_eq_false h2, decide_eq_false (fun h => h2 (by rw [h]))]))
    clear h1
    go_enter Try.func92, Try.ntmps92
    go_wp2_with fail
    refine E.out.mono ?_
    rintro e w1 ⟨rfl, nd, rfl⟩
    go_wp2_with fail
    go_ret
    exact ⟨by rw [R'.out]; rfl, below_drewN b0.out nd⟩
  · have h1' : (x.kind == y.kind) = false := by simpa using h1
    have R' := Lib.hid (R.out.trans (decide_eq_false fun h => h1 (by rw [h])))
    clear h1
    go_enter Try.func92, Try.ntmps92
    go_wp2_with fail
    go_ret
    exact ⟨by rw [R'.out]; rfl, b0.out⟩

theorem equalFuncLoss_any (xs ys : List GLoss) (A A' : Option Addr) (c c' : Nat) (w : World) (hx : SA w xs A c) (hy : SA w ys A' c') :
    Calls Try.prog 91 #[.slice A xs.length c, .slice A' ys.length c', .func (.func 92) #[] #[]] w (Ret w (.bool (decide (xs = ys)))) := by
  obtain ⟨r, hr⟩ : ∃ r, r = decide (xs = ys) := ⟨_, rfl⟩
  rw [← hr]
  have R := Lib.hid hr; clear hr
  have hl : xs.length ≤ 9223372036854775807 := by have := hx.len; unfold maxLen at this; omega
  have hl' : ys.length ≤ 9223372036854775807 := by have := hy.len; unfold maxLen at this; omega
  have E := Lib.hid (And.intro hx hy); clear hx hy
  by_cases he : xs.length = ys.length
  · have he' : ((xs.length : Int) != ys.length) = false := by simp [he]
    have HE := Lib.hid he; clear he
    go_enter Try.func91, Try.ntmps91
    go_wp2_with fail
    go_loopg [17] xs.length (fun gk i wr => ∃ k : Nat, k ≤ xs.length ∧ i = .int .i64 k ∧ gk = xs.length - k ∧ Hid (xs.take k = ys.take k) ∧ Below w.heap.size w wr)
    case atStart => exact ⟨0, by omega, rfl, by omega, rfl, bRf w⟩
    case round =>
      obtain ⟨k, hk, rfl, rfl, hT, hbel⟩ := hrel
      by_cases hlt : k < xs.length
      · obtain ⟨b, off, A1, c1, rfl, hb, hI, hs, k0, k1⟩ := (E.out.1.below hbel).loss_at hlt
        have hlt' : k < ys.length := HE.out ▸ hlt
        obtain ⟨b', off', A2, c2, rfl, hb', hI', hs', k0', k1'⟩ := (E.out.2.below hbel).loss_at hlt'
        have HS := Lib.hid (And.intro hs hs'); clear hs hs'
        have b2 := Lib.hid (bAl (bAl hbel (.cells #[.int .i64 xs[k].kind, .slice A1 xs[k].p.length c1] 88)) (.cells #[.int .i64 ys[k].kind, .slice A2 ys[k].p.length c2] 88))
        have r2 := Lib.hid (bAl (bAl (bRf wr) (.cells #[.int .i64 xs[k].kind, .slice A1 xs[k].p.length c1] 88)) (.cells #[.int .i64 ys[k].kind, .slice A2 ys[k].p.length c2] 88))
        have C := Lib.hid (sameLossesF_any xs[k] ys[k] A1 A2 c1 c2 _ (HS.out.1.below r2.out) (HS.out.2.below r2.out))
        rcases Decidable.em (xs[k] = ys[k]) with hq | hq
        · have HQ := Lib.hid hq; clear hq
          go_wp2_with fail
          refine C.out.mono ?_
          rintro e w1 ⟨rfl, hb1⟩
          have b3 := Lib.hid (bTr b2.out hb1); clear hb1
          rw [decide_eq_true HQ.out]
          go_wp2_with fail
          go_roundg (xs.length - (k + 1))
          case measure => omega
          case rel => exact ⟨k + 1, by omega, by go_num, rfl, take_snoc_eq hlt hlt' hT.out HQ.out, b3.out⟩
        · have HQ := Lib.hid hq; clear hq
          go_wp2_with fail
          refine C.out.mono ?_
          rintro e w1 ⟨rfl, hb1⟩
          have b3 := Lib.hid (bTr b2.out hb1); clear hb1
          rw [decide_eq_false HQ.out]
          go_wp2_with fail
          go_ret
          exact ⟨by rw [R.out, decide_eq_false (fun h => HQ.out (by subst h; rfl))]; rfl, b3.out⟩
      · have e : k = xs.length := by omega
        go_wp2_with fail
        go_ret
        exact ⟨by rw [R.out, decide_eq_true (take_all_eq e HE.out hT.out)]; rfl, hbel⟩
  · have he' : ((xs.length : Int) != ys.length) = true := by simp; omega
    go_enter Try.func91, Try.ntmps91
    go_wp2_with fail
    go_ret
    exact ⟨by rw [R.out, decide_eq_false (fun h => he (by rw [h]))]; rfl, bRf w⟩

theorem implSameLosses_any (xs ys : List GLoss) (A A' : Option Addr) (c c' : Nat) (w : World) (hx : SA w xs A c) (hy : SA w ys A' c') :
    Calls Try.prog 54 #[.slice A xs.length c, .slice A' ys.length c'] w (Ret w (.bool (decide (xs = ys)))) := by
  have C := Lib.hid (equalFuncLoss_any xs ys A A' c c' w hx hy); clear hx hy
  obtain ⟨r, hr⟩ : ∃ r, r = decide (xs = ys) := ⟨_, rfl⟩
  rw [← hr] at C ⊢
  clear hr
  go_enter Try.func54, Try.ntmps54
  go_wp2_with fail
  refine C.out.mono ?_
  rintro e w1 ⟨rfl, hb1⟩
  go_wp2_with fail
  go_ret
  exact ⟨rfl, hb1⟩

theorem bytesEqual_any (xs ys : List UInt8) (A A' : Option Addr) (c c' : Nat) (w : World) (hx : SA w xs A c) (hy : SA w ys A' c') :
    Calls Try.prog 53 #[.slice A xs.length c, .slice A' ys.length c'] w (Ret w (.bool (decide (xs = ys)))) := by
  have k1 := run_str_of_bytes Try.underlying22 Try.underlying5 Try.underlying9 hx
  have k2 := run_str_of_bytes Try.underlying22 Try.underlying5 Try.underlying9 hy
  obtain ⟨r, hr⟩ : ∃ r, r = decide (xs = ys) := ⟨_, rfl⟩
  rw [← hr]
  have R := Lib.hid hr; clear hr hx hy
  go_enter Try.func53, Try.ntmps53
  go_wp2_with fail
  go_ret
  exact ⟨by rw [R.out]; show Ending.returned (.bool ((strOf xs).toList == (strOf ys).toList)) = _; rw [str_eq]; simp only [strOf_inj], bRf w⟩
end Go.Proofs.Ytblcmajhdndmfaa
