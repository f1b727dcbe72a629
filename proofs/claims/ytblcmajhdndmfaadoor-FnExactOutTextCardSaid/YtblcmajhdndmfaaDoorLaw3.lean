/- Contracts of the laws' own helpers over bytes and outs. -/
import Derived.Test.YtblcmajhdndmfaaDoorLaw2
import Derived.BigQuiet
import Derived.Deep.QuietTactic
namespace Go.Proofs.YtblcmajhdndmfaaDoor
open Go.RowKit
set_option linter.unusedVariables false
set_option maxRecDepth 100000

theorem infoByte : (Tryd.prog.info? 5).map (fun i => (i.zero, i.size, i.bytes)) = some (some (.int .u8 0), 1, 1) := by kernel_rfl
theorem infoOut : (Tryd.prog.info? 45).map (fun i => (i.zero, i.size, i.bytes)) = some (some (.agg #[.slice none 0 0, .slice none 0 0, .int .i64 0]), 3, 56) := by kernel_rfl

theorem szByteS_any (xs : List UInt8) (A : Option Addr) (c : Nat) (left : Int) (w : World) (h1 : 0 ≤ left) (h2 : left ≤ 1048576) (hx : SA w xs A c) :
    Calls Tryd.prog 30 #[.slice A xs.length c, .int .i64 left] w (Ret w (.int .i64 (lft left xs.length))) := by
  have hl := hx.len
  unfold maxLen at hl
  have hl2 : xs.length ≤ 9223372036854775807 := by omega
  clear hx hl
  by_cases h : left - xs.length < 0
  · have e := lft_neg (left := left) (k := xs.length) (by omega)
    have E := Lib.hid e; clear e
    go_enter Tryd.func30, Tryd.ntmps30
    go_wp2
    go_ret
    exact ⟨by rw [E.out]; rfl, Below.refl _ _⟩
  · have e := lft_pos (left := left) (k := xs.length) (by omega)
    have E := Lib.hid e; clear e
    go_enter Tryd.func30, Tryd.ntmps30
    go_wp2
    go_ret
    exact ⟨by rw [E.out]; rfl, Below.refl _ _⟩

theorem toByteS_any (xs : List UInt8) (A : Option Addr) (c : Nat) (w : World) (hn : xs.length ≤ 1048576) (hx : SA w xs A c) :
    Calls Tryd.prog 34 #[.slice A xs.length c] w (RetS w xs) := by
  have hmk := run_mk (P := Tryd.prog) Tryd.underlying32 infoByte xs.length (by omega) (by omega)
  have O0 := Lib.hid (OwnF.made1 rfl (z := .int .u8 0) (a := (0 : UInt8)) w 5 xs.length (fun _ => ⟨rfl, rfl⟩) (by unfold maxLen; omega))
  have E := Lib.hid hx; clear hx
  have b0 := bAl (bRf w) (.cells (madeCells (Value.int .u8 0).cells xs.length) 5)
  go_enter Tryd.func34, Tryd.ntmps34
  go_wp2_with fail
  clear hmk
  go_loopg [4] xs.length (fun gk i wr => ∃ k : Nat, k ≤ xs.length ∧ i = .int .i64 k ∧ gk = xs.length - k ∧ OwnF wr w.heap.size 5 (.slice (some ⟨w.heap.size, 0, none⟩) xs.length xs.length) (fillL xs 0 k) ∧ Below w.heap.size w wr)
  case atStart => exact ⟨0, by omega, rfl, by omega, by rw [fillL_zero]; exact O0.out, b0⟩
  case round =>
    obtain ⟨k, hk, rfl, rfl, hown, hbel⟩ := hrel
    by_cases hlt : k < xs.length
    · obtain ⟨b, off, rfl, hb, k0⟩ := (E.out.below hbel).byte_at hlt
      obtain ⟨⟨v0, g0⟩, f0⟩ := hown.fact1 rfl (i := k) (by rw [fillL_len _ _ hk]; exact hlt)
      go_wp2_with fail
      go_roundg (xs.length - (k + 1))
      case measure => omega
      case rel =>
        have hs := hown.stored1 rfl (bRf wr) (i := k) (by rw [fillL_len _ _ hk]; exact hlt) (RF.byte (base := wr.heap.size) (w := wr) xs[k])
        rw [fillL_set _ _ hlt] at hs
        exact ⟨k + 1, by omega, by go_num, rfl, hs, bStores hbel (Nat.le_refl _) hbel.size k [_]⟩
    · have e : k = xs.length := by omega
      go_wp2_with fail
      go_ret
      rw [e, fillL_all] at hown
      exact ⟨_, _, rfl, hown.sf.2, hbel⟩

theorem eqByteS_any (xs ys : List UInt8) (A A' : Option Addr) (c c' : Nat) (w : World) (hx : SA w xs A c) (hy : SA w ys A' c') :
    Calls Tryd.prog 38 #[.slice A xs.length c, .slice A' ys.length c'] w (Ret w (.bool (decide (xs = ys)))) := by
  obtain ⟨r, hr⟩ : ∃ r, r = decide (xs = ys) := ⟨_, rfl⟩
  rw [← hr]
  have R := Lib.hid hr; clear hr
  have hl : xs.length ≤ 9223372036854775807 := by have := hx.len; unfold maxLen at this; omega
  have hl' : ys.length ≤ 9223372036854775807 := by have := hy.len; unfold maxLen at this; omega
  have E := Lib.hid (And.intro hx hy); clear hx hy
  by_cases he : xs.length = ys.length
  · have he' : ((xs.length : Int) != ys.length) = false := by simp [he]
    have HE := Lib.hid he; clear he
    go_enter Tryd.func38, Tryd.ntmps38
    go_wp2_with fail
    go_loopg [5] xs.length (fun gk i wr => ∃ k : Nat, k ≤ xs.length ∧ i = .int .i64 k ∧ gk = xs.length - k ∧ Hid (xs.take k = ys.take k) ∧ Below w.heap.size w wr)
    case atStart => exact ⟨0, by omega, rfl, by omega, rfl, bRf w⟩
    case round =>
      obtain ⟨k, hk, rfl, rfl, hT, hbel⟩ := hrel
      by_cases hlt : k < xs.length
      · obtain ⟨b, off, rfl, hb, k0⟩ := (E.out.1.below hbel).byte_at hlt
        have hlt' : k < ys.length := HE.out ▸ hlt
        obtain ⟨b', off', rfl, hb', k0'⟩ := (E.out.2.below hbel).byte_at hlt'
        have hi1 : (k : Int) < xs.length := by omega
        have hi2 : (k : Int) < ys.length := by omega
        have hi3 : (0 : Int) ≤ k := by omega
        rcases Decidable.em (xs[k] = ys[k]) with hq | hq
        · have HQ := Lib.hid hq; clear hq
          have hne : ((xs[k].toNat : Int) != ys[k].toNat) = false := by rw [HQ.out]; simp
          go_wp2_with fail
          go_quiet (fail)
          go_wp2_with fail
          go_roundg (xs.length - (k + 1))
          case measure => omega
          case rel => exact ⟨k + 1, by omega, by go_num, rfl, take_snoc_eq hlt hlt' hT.out HQ.out, below_drewN hbel _⟩
        · have HQ := Lib.hid hq; clear hq
          have hne : ((xs[k].toNat : Int) != ys[k].toNat) = true := by have := HQ.out; simp only [bne_iff_ne, ne_eq, Int.natCast_inj]; exact fun h => this (UInt8.toNat_inj.1 h)
          go_wp2_with fail
          go_quiet (fail)
          go_wp2_with fail
          go_ret
          exact ⟨by rw [R.out, decide_eq_false (fun h => HQ.out (by subst h; rfl))]; rfl, below_drewN hbel _⟩
      · have e : k = xs.length := by omega
        go_wp2_with fail
        go_ret
        exact ⟨by rw [R.out, decide_eq_true (take_all_eq e HE.out hT.out)]; rfl, hbel⟩
  · have he' : ((xs.length : Int) != ys.length) = true := by simp; omega
    go_enter Tryd.func38, Tryd.ntmps38
    go_wp2_with fail
    go_ret
    exact ⟨by rw [R.out, decide_eq_false (fun h => he (by rw [h]))]; rfl, bRf w⟩


theorem szOut_any (x : GOut) (A A' : Option Addr) (c c' : Nat) (left : Int) (w : World) (h1 : 0 ≤ left) (h2 : left ≤ 1048576) (hx : SA w x.b A c) (hy : SA w x.l A' c') :
    Calls Tryd.prog 11 #[.agg #[.slice A x.b.length c, .slice A' x.l.length c', .int .i64 x.code], .int .i64 left] w (Ret w (.int .i64 (lft left (bulkOut x)))) := by
  obtain ⟨r, hr⟩ : ∃ r, r = lft left (bulkOut x) := ⟨_, rfl⟩
  rw [← hr]
  have R := Lib.hid (show r = lft left (x.b.length + bulkLossS x.l) from hr); clear hr
  have b0 := Lib.hid (bAl (bRf w) (.cells #[.slice A x.b.length c, .slice A' x.l.length c', .int .i64 x.code] 35))
  have E := Lib.hid (And.intro (hx.below b0.out) (hy.below b0.out)); clear hx hy
  go_enter Tryd.func11, Tryd.ntmps11
  go_wp2_with fail
  refine (szByteS_any x.b A c left _ h1 h2 E.out.1).mono ?_
  rintro e w1 ⟨rfl, hb1⟩
  have b1 := Lib.hid (bTr b0.out hb1)
  have E1 := Lib.hid (E.out.2.below hb1)
  obtain ⟨hc, hf⟩ := bCell hb1
  have hz : w.heap.size < w1.heap.size := by have := hb1.size; simp at this; omega
  clear hb1
  rcases lft_cases (left := left) (k := x.b.length) h1 with L | ⟨l0, L, lo, hi, hk⟩
  · have R' := Lib.hid (R.out.trans (lft_neg_of L))
    rw [L]
    clear L
    go_wp2_with fail
    go_ret
    exact ⟨by rw [R'.out]; rfl, b1.out⟩
  have R' := Lib.hid (R.out.trans (lft_of L lo))
  rw [L]
  clear L
  go_wp2_with fail
  refine (szLossS_any x.l A' c' l0 _ lo (by omega) E1.out).mono ?_
  rintro e w2 ⟨rfl, hb2⟩
  have b2 := Lib.hid (bTr b1.out hb2)
  clear hb2 hc hf
  rcases lft_cases (left := l0) (k := bulkLossS x.l) lo with L | ⟨l1, L, lo1, hi1, hk1⟩
  all_goals
    have R2 := Lib.hid (R'.out.trans L)
    rw [L]
    clear L
    go_wp2_with fail
    go_ret
    exact ⟨by rw [R2.out]; rfl, b2.out⟩

theorem toOut_any (x : GOut) (A A' : Option Addr) (c c' : Nat) (w : World) (hn : bulkOut x ≤ 1048576) (hI : I64 x.code) (hx : SA w x.b A c) (hy : SA w x.l A' c') :
    Calls Tryd.prog 14 #[.agg #[.slice A x.b.length c, .slice A' x.l.length c', .int .i64 x.code]] w fun e w' => ∃ B1 d1 B2 d2, e = .returned (.agg #[.slice B1 x.b.length d1, .slice B2 x.l.length d2, .int .i64 x.code]) ∧
      RF w.heap.size w' x [.slice B1 x.b.length d1, .slice B2 x.l.length d2, .int .i64 x.code] ∧ Below w.heap.size w w' := by
  have hn1 : x.b.length ≤ 1048576 := by unfold bulkOut at hn; omega
  have hn2 : bulkLossS x.l ≤ 1048576 := by unfold bulkOut at hn; omega
  clear hn
  have E := Lib.hid (And.intro hx hy); clear hx hy
  go_enter Tryd.func14, Tryd.ntmps14
  go_wp2_with fail
  refine (toByteS_any x.b A c _ hn1 (E.out.1.below (bAl (bAl (bAl (bRf w) _) _) _))).mono ?_
  rintro e w1 ⟨B1, d1, rfl, hs, hb1⟩
  have B := Lib.hid (bTr (bAl (bAl (bAl (bRf w) _) _) _) hb1)
  have S1 := Lib.hid hs; clear hs
  obtain ⟨hc, hf⟩ := bCell hb1
  have hz : w.heap.size + 1 + 1 < w1.heap.size := by have := hb1.size; simp at this; omega
  have HB1 := Lib.hid hb1; clear hb1
  go_wp2_with fail
  have B2 := Lib.hid (B.out.setCell (p := ⟨w.heap.size + 1 + 1, 0, none⟩) (by simp; omega) (.slice B1 x.b.length d1))
  refine (toLossS_any x.l A' c' _ hn2 (E.out.2.below B2.out)).mono ?_
  rintro e w2 ⟨D2, d2, rfl, hs, hb2⟩
  have B3 := Lib.hid (bTr B2.out hb2)
  have S2 := Lib.hid (RF.out (o := x) hI (SF.pair (base := w.heap.size + 1 + 1 + 1) (S1.out.set (p := ⟨w.heap.size + 1 + 1, 0, none⟩) (by simp) (.slice B1 x.b.length d1)) hb2 hs (by simp) (by simp; omega)))
  obtain ⟨hc2, hf2⟩ := bCell hb2
  have hz2 : w.heap.size + 1 + 1 < w2.heap.size := by have := hb2.size; simp at this; omega
  have hy1 : w.heap.size < w1.heap.size := by omega
  have hy2 : w.heap.size + 1 < w1.heap.size := by omega
  clear hb2 hs
  go_wp2_with fail
  refine bodyPost_ret (v := .agg #[.slice B1 x.b.length d1, .slice D2 x.l.length d2, .int .i64 x.code]) (by simp [results, Tryd.results14, go_sem, hc2, hc, hy2, hz2]) rfl ?_
  refine ⟨B1, d1, D2, d2, rfl, ?_, ?_⟩
  · exact ((((((S2.out.set (by simp) _).set (by simp) _).set (by simp) _).set (by simp) _).set (by simp) _).mono (by omega))
  · refine Below.setCell (Below.setCell (Below.setCell (Below.setCell (Below.setCell B3.out ?_ _) ?_ _) ?_ _) ?_ _) ?_ _
    all_goals (simp; try omega)

theorem eqOut_any (x y : GOut) (A A' B B' : Option Addr) (c c' d d' : Nat) (w : World) (hx : SA w x.b A c) (hx' : SA w x.l A' c') (hy : SA w y.b B d) (hy' : SA w y.l B' d') :
    Calls Tryd.prog 17 #[.agg #[.slice A x.b.length c, .slice A' x.l.length c', .int .i64 x.code], .agg #[.slice B y.b.length d, .slice B' y.l.length d', .int .i64 y.code]] w (Ret w (.bool (decide (x = y)))) := by
  have b0 := Lib.hid (bAl (bAl (bRf w) (.cells #[.slice A x.b.length c, .slice A' x.l.length c', .int .i64 x.code] 45)) (.cells #[.slice B y.b.length d, .slice B' y.l.length d', .int .i64 y.code] 45))
  have E := Lib.hid (And.intro (And.intro (hx.below b0.out) (hy.below b0.out)) (And.intro (hx'.below b0.out) (hy'.below b0.out))); clear hx hy hx' hy'
  obtain ⟨r, hr⟩ : ∃ r, r = decide (x = y) := ⟨_, rfl⟩
  rw [← hr]
  have R := Lib.hid hr; clear hr
  rcases Decidable.em (x.b = y.b) with h1 | h1
  · have H1 := Lib.hid h1; clear h1
    rcases Decidable.em (x.l = y.l) with h2 | h2
    · have H2 := Lib.hid h2; clear h2
      go_enter Tryd.func17, Tryd.ntmps17
      go_wp2_with fail
      refine (eqByteS_any x.b y.b A B c d _ E.out.1.1 E.out.1.2).mono ?_
      rintro e w1 ⟨rfl, hb1⟩
      have b1 := Lib.hid (bTr b0.out hb1)
      have E1 := Lib.hid (And.intro (E.out.2.1.below hb1) (E.out.2.2.below hb1))
      obtain ⟨hc, hf⟩ := bCell hb1
      have hz : w.heap.size + 1 < w1.heap.size := by have := hb1.size; simp at this; omega
      have hz' : w.heap.size < w1.heap.size := by omega
      clear hb1
      rw [decide_eq_true H1.out]
      go_wp2_with fail
      refine (eqLossS_any x.l y.l A' B' c' d' _ E1.out.1 E1.out.2).mono ?_
      rintro e w2 ⟨rfl, hb2⟩
      have b2 := Lib.hid (bTr b1.out hb2)
      obtain ⟨hc2, hf2⟩ := bCell hb2
      have hz2 : w.heap.size + 1 < w2.heap.size := by have := hb2.size; omega
      clear hb2
      rw [decide_eq_true H2.out]
      rcases Decidable.em (x.code = y.code) with h3 | h3
      · have R' := Lib.hid (R.out.trans (decide_eq_true (gout_eq H1.out H2.out h3)))
        have h3' : (x.code != y.code) = false := by simpa using h3
        clear h3
        go_wp2_with fail
        go_ret
        exact ⟨by rw [R'.out]; rfl, b2.out⟩
      · have R' := Lib.hid (R.out.trans (decide_eq_false fun h => h3 (by rw [h])))
        have h3' : (x.code != y.code) = true := by simpa using h3
        clear h3
        go_wp2_with fail
        go_ret
        exact ⟨by rw [R'.out]; rfl, b2.out⟩
    · have H2 := Lib.hid h2; clear h2
      have R' := Lib.hid (R.out.trans (decide_eq_false fun h => H2.out (by rw [h])))
      go_enter Tryd.func17, Tryd.ntmps17
      go_wp2_with fail
      refine (eqByteS_any x.b y.b A B c d _ E.out.1.1 E.out.1.2).mono ?_
      rintro e w1 ⟨rfl, hb1⟩
      have b1 := Lib.hid (bTr b0.out hb1)
      have E1 := Lib.hid (And.intro (E.out.2.1.below hb1) (E.out.2.2.below hb1))
      obtain ⟨hc, hf⟩ := bCell hb1
      have hz : w.heap.size + 1 < w1.heap.size := by have := hb1.size; simp at this; omega
      have hz' : w.heap.size < w1.heap.size := by omega
      clear hb1
      rw [decide_eq_true H1.out]
      go_wp2_with fail
      refine (eqLossS_any x.l y.l A' B' c' d' _ E1.out.1 E1.out.2).mono ?_
      rintro e w2 ⟨rfl, hb2⟩
      have b2 := Lib.hid (bTr b1.out hb2)
      clear hb2
      rw [decide_eq_false H2.out]
      go_wp2_with fail
      go_ret
      exact ⟨by rw [R'.out]; rfl, b2.out⟩
  · have H1 := Lib.hid h1; clear h1
    have R' := Lib.hid (R.out.trans (decide_eq_false fun h => H1.out (by rw [h])))
    go_enter Tryd.func17, Tryd.ntmps17
    go_wp2_with fail
    refine (eqByteS_any x.b y.b A B c d _ E.out.1.1 E.out.1.2).mono ?_
    rintro e w1 ⟨rfl, hb1⟩
    have b1 := Lib.hid (bTr b0.out hb1)
    clear hb1
    rw [decide_eq_false H1.out]
    go_wp2_with fail
    go_ret
    exact ⟨by rw [R'.out]; rfl, b1.out⟩

end Go.Proofs.YtblcmajhdndmfaaDoor
