/- Contracts of the laws' own helpers over lists of outs. -/
import Derived.Test.YtblcmajhdndmfaaDoorLaw3
namespace Go.Proofs.YtblcmajhdndmfaaDoor
open Go.RowKit
set_option linter.unusedVariables false
set_option maxRecDepth 100000

theorem szOutS_any (xs : List GOut) (A : Option Addr) (c : Nat) (left : Int) (w : World) (h1 : 0 ≤ left) (h2 : left ≤ 1048576) (hx : SA w xs A c) :
    Calls Tryd.prog 5 #[.slice A xs.length c, .int .i64 left] w (Ret w (.int .i64 (lft left (bulkOutS xs)))) := by
  have hl := hx.len
  unfold maxLen at hl
  have hl2 : xs.length ≤ 9223372036854775807 := by omega
  clear hl
  unfold bulkOutS
  have E := Lib.hid hx; clear hx
  by_cases h : left - xs.length < 0
  · have L := Lib.hid (lft_neg (left := left) (k := xs.length + (xs.map bulkOut).sum) (by omega))
    go_enter Tryd.func5, Tryd.ntmps5
    go_wp2_with fail
    go_ret
    exact ⟨by rw [L.out]; rfl, Below.refl _ _⟩
  · go_enter Tryd.func5, Tryd.ntmps5
    go_wp2_with fail
    go_loopg [1, 5] xs.length (fun gk l i wr => ∃ (k : Nat) (lf : Int), k ≤ xs.length ∧ i = .int .i64 k ∧ gk = xs.length - k ∧ l = .int .i64 lf ∧ 0 ≤ lf ∧ lf ≤ 1048576 ∧ Hid (lft lf ((xs.drop k).map bulkOut).sum = lft left (xs.length + (xs.map bulkOut).sum)) ∧ Below w.heap.size w wr)
    case atStart => exact ⟨0, _, by omega, rfl, by omega, rfl, by omega, by omega, lft_step, Below.refl _ _⟩
    case round =>
      obtain ⟨k, lf, hk, rfl, rfl, rfl, hl0, hl1, hT, hbel⟩ := hrel
      by_cases hlt : k < xs.length
      · have hx := E.out.below hbel
        obtain ⟨b, off, A1, c1, A2, c2, rfl, hb, hI, hs1, hs2, k0, k1, k2⟩ := hx.out_at hlt
        have HS := Lib.hid (And.intro hs1 hs2); clear hs1 hs2 hx
        have D := Lib.hid (sum_drop bulkOut xs hlt)
        by_cases hf : lf < bulkOut xs[k]
        · have L := Lib.hid (lft_neg hf)
          go_wp2_with fail
          refine (szOut_any xs[k] A1 A2 c1 c2 lf _ hl0 hl1 HS.out.1 HS.out.2).mono ?_
          rintro e w1 ⟨rfl, hb1⟩
          rw [L.out]
          go_wp2_with fail
          go_ret
          exact ⟨by rw [← hT.out, D.out, lft_out hf]; rfl, bTr hbel hb1⟩
        · have L := Lib.hid (lft_pos (left := lf) (k := bulkOut xs[k]) (by omega))
          go_wp2_with fail
          refine (szOut_any xs[k] A1 A2 c1 c2 lf _ hl0 hl1 HS.out.1 HS.out.2).mono ?_
          rintro e w1 ⟨rfl, hb1⟩
          rw [L.out]
          go_wp2_with fail
          go_roundg (xs.length - (k + 1))
          case measure => omega
          case rel => exact ⟨k + 1, _, by omega, by go_num, rfl, rfl, by omega, by omega, by rw [lft_step, ← D.out]; exact hT, bTr hbel hb1⟩
      · have e : k = xs.length := by omega
        go_wp2_with fail
        go_ret
        exact ⟨by rw [← hT.out, e, List.drop_length]; simp [lft]; omega, hbel⟩

theorem toOutS_any (xs : List GOut) (A : Option Addr) (c : Nat) (w : World) (hn : bulkOutS xs ≤ 1048576) (hx : SA w xs A c) :
    Calls Tryd.prog 7 #[.slice A xs.length c] w (RetS w xs) := by
  have hn1 : xs.length ≤ 1048576 := by unfold bulkOutS at hn; omega
  have hp : Hid (∀ k (h : k < xs.length), bulkOut xs[k] ≤ 1048576) := fun k h => by
    have := le_sum_at bulkOut xs h; unfold bulkOutS at hn; omega
  clear hn
  have hmk := run_mk (P := Tryd.prog) Tryd.underlying25 infoOut xs.length (by omega) (by omega)
  have O0 := Lib.hid (OwnF.made (z := .agg #[.slice none 0 0, .slice none 0 0, .int .i64 0]) (a := (⟨[], [], 0⟩ : GOut)) w 45 xs.length (fun _ => ⟨none, 0, none, 0, [], [], rfl, rfl, I64.zero, ⟨by simp, by simp, .inl ⟨rfl, rfl, fun _ => rfl⟩⟩, ⟨by simp, by simp, .inl ⟨rfl, rfl, fun _ => rfl⟩⟩⟩) (by unfold maxLen; omega) (by decide))
  have E := Lib.hid hx; clear hx
  have b0 := bAl (bRf w) (.cells (madeCells (Value.agg #[.slice none 0 0, .slice none 0 0, .int .i64 0]).cells (xs.length * 3)) 45)
  go_enter Tryd.func7, Tryd.ntmps7
  go_wp2_with fail
  clear hmk
  go_loopg [4] xs.length (fun gk i wr => ∃ k : Nat, k ≤ xs.length ∧ i = .int .i64 k ∧ gk = xs.length - k ∧ OwnF wr w.heap.size 45 (.slice (some ⟨w.heap.size, 0, none⟩) xs.length xs.length) (fillL xs ⟨[], [], 0⟩ k) ∧ Below w.heap.size w wr)
  case atStart => exact ⟨0, by omega, rfl, by omega, by rw [fillL_zero]; exact O0.out, b0⟩
  case round =>
    obtain ⟨k, hk, rfl, rfl, hown, hbel⟩ := hrel
    by_cases hlt : k < xs.length
    · obtain ⟨b, off, A1, c1, A2, c2, rfl, hb, hI, hs1, hs2, k0, k1, k2⟩ := (E.out.below hbel).out_at hlt
      have HS := Lib.hid (And.intro hs1 hs2); clear hs1 hs2
      go_wp2_with fail
      refine (toOut_any xs[k] A1 A2 c1 c2 _ (hp.out k hlt) hI HS.out.1 HS.out.2).mono ?_
      rintro e w1 ⟨B1, d1, B2, d2, rfl, hsf, hb1⟩
      have hown1 := hown.below hb1
      obtain ⟨⟨v0, v1, v2, g0, g1, g2⟩, f0, f1, f2⟩ := hown1.fact3 rfl (i := k) (by rw [fillL_len _ _ hk]; exact hlt)
      go_wp2_with fail
      go_roundg (xs.length - (k + 1))
      case measure => omega
      case rel =>
        have hs := hown.stored hb1 (i := k) (by rw [fillL_len _ _ hk]; exact hlt) hsf
        rw [fillL_set _ _ hlt] at hs
        exact ⟨k + 1, by omega, by go_num, rfl, hs, bStores (bTr hbel hb1) (Nat.le_refl _) (bTr hbel hb1).size (k * 3) [_, _, _]⟩
    · have e : k = xs.length := by omega
      go_wp2_with fail
      go_ret
      rw [e, fillL_all] at hown
      exact ⟨_, _, rfl, hown.sf.2, hbel⟩

theorem eqOutS_any (xs ys : List GOut) (A A' : Option Addr) (c c' : Nat) (w : World) (hx : SA w xs A c) (hy : SA w ys A' c') :
    Calls Tryd.prog 9 #[.slice A xs.length c, .slice A' ys.length c'] w (Ret w (.bool (decide (xs = ys)))) := by
  obtain ⟨r, hr⟩ : ∃ r, r = decide (xs = ys) := ⟨_, rfl⟩
  rw [← hr]
  have R := Lib.hid hr; clear hr
  have hl : xs.length ≤ 9223372036854775807 := by have := hx.len; unfold maxLen at this; omega
  have hl' : ys.length ≤ 9223372036854775807 := by have := hy.len; unfold maxLen at this; omega
  have E := Lib.hid (And.intro hx hy); clear hx hy
  by_cases he : xs.length = ys.length
  · have he' : ((xs.length : Int) != ys.length) = false := by simp [he]
    have HE := Lib.hid he; clear he
    go_enter Tryd.func9, Tryd.ntmps9
    go_wp2_with fail
    go_loopg [5] xs.length (fun gk i wr => ∃ k : Nat, k ≤ xs.length ∧ i = .int .i64 k ∧ gk = xs.length - k ∧ Hid (xs.take k = ys.take k) ∧ Below w.heap.size w wr)
    case atStart => exact ⟨0, by omega, rfl, by omega, rfl, bRf w⟩
    case round =>
      obtain ⟨k, hk, rfl, rfl, hT, hbel⟩ := hrel
      by_cases hlt : k < xs.length
      · obtain ⟨b, off, A1, c1, A2, c2, rfl, hb, hI, hs1, hs2, k0, k1, k2⟩ := (E.out.1.below hbel).out_at hlt
        have hlt' : k < ys.length := HE.out ▸ hlt
        obtain ⟨b', off', A3, c3, A4, c4, rfl, hb', hI', hs1', hs2', k0', k1', k2'⟩ := (E.out.2.below hbel).out_at hlt'
        have HS := Lib.hid (And.intro hs1 hs2); clear hs1 hs2
        have HS' := Lib.hid (And.intro hs1' hs2'); clear hs1' hs2'
        rcases Decidable.em (xs[k] = ys[k]) with hq | hq
        · have HQ := Lib.hid hq; clear hq
          go_wp2_with fail
          go_still_tail 8, (by kernel_rfl)
          change wpList _ _ _ _ _ wr.drew
          go_wp2_with fail
          refine (eqOut_any xs[k] ys[k] A1 A2 A3 A4 c1 c2 c3 c4 _ HS.out.1.drew HS.out.2.drew HS'.out.1.drew HS'.out.2.drew).mono ?_
          rintro e w1 ⟨rfl, hb1⟩
          rw [decide_eq_true HQ.out]
          go_wp2_with fail
          go_roundg (xs.length - (k + 1))
          case measure => omega
          case rel => exact ⟨k + 1, by omega, by go_num, rfl, take_snoc_eq hlt hlt' hT.out HQ.out, bTr hbel.drew hb1⟩
        · have HQ := Lib.hid hq; clear hq
          go_wp2_with fail
          go_still_tail 8, (by kernel_rfl)
          change wpList _ _ _ _ _ wr.drew
          go_wp2_with fail
          refine (eqOut_any xs[k] ys[k] A1 A2 A3 A4 c1 c2 c3 c4 _ HS.out.1.drew HS.out.2.drew HS'.out.1.drew HS'.out.2.drew).mono ?_
          rintro e w1 ⟨rfl, hb1⟩
          rw [decide_eq_false HQ.out]
          go_wp2_with fail
          go_ret
          exact ⟨by rw [R.out, decide_eq_false (fun h => HQ.out (by subst h; rfl))]; rfl, bTr hbel.drew hb1⟩
      · have e : k = xs.length := by omega
        go_wp2_with fail
        go_ret
        exact ⟨by rw [R.out, decide_eq_true (take_all_eq e HE.out hT.out)]; rfl, hbel⟩
  · have he' : ((xs.length : Int) != ys.length) = true := by simp; omega
    go_enter Tryd.func9, Tryd.ntmps9
    go_wp2_with fail
    go_ret
    exact ⟨by rw [R.out, decide_eq_false (fun h => he (by rw [h]))]; rfl, bRf w⟩
end Go.Proofs.YtblcmajhdndmfaaDoor
