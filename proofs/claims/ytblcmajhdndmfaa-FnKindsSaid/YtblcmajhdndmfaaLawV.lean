/- Contracts of the laws' own helpers over trees: how much they hold, copies, equality. -/
import Derived.Test.YtblcmajhdndmfaaLaw2
import Derived.Test.YtblcmajhdndmfaaVal
import Derived.Test.YtblcmajhdndmfaaBytes
namespace Go.Proofs.Ytblcmajhdndmfaa
open Go.RowKit
set_option linter.unusedVariables false
set_option maxRecDepth 100000

theorem infoVal : (Try.prog.info? 40).map (fun i => (i.zero, i.size, i.bytes)) = some (some (.agg #[.int .i64 0, .int .i64 0, .int .i64 0, .string .empty, .slice none 0 0]), 5, 64) := by kernel_rfl

def SzVal (v : GVal) : Prop := ∀ (A : Option Addr) (c : Nat) (left : Int) (w : World), 0 ≤ left → left ≤ 1048576 → SA w v.l A c → v.s.size ≤ 9223372036854775807 →
    Calls Try.prog 16 #[.agg #[.int .i64 v.kind, .int .i64 v.n, .int .i64 v.x, .string v.s, .slice A v.l.length c], .int .i64 left] w (Ret w (.int .i64 (lft left (bulkVal v))))

theorem szValS_of (xs : List GVal) (A : Option Addr) (c : Nat) (left : Int) (w : World) (h1 : 0 ≤ left) (h2 : left ≤ 1048576) (hx : SA w xs A c) (IH : ∀ i (hi : i < xs.length), SzVal xs[i]) :
    Calls Try.prog 57 #[.slice A xs.length c, .int .i64 left] w (Ret w (.int .i64 (lft left (bulkVals xs)))) := by
  have hl := hx.len
  unfold maxLen at hl
  have hl2 : xs.length ≤ 9223372036854775807 := by omega
  clear hl
  rw [bulkVals_eq]
  have IH' := Lib.hid IH; clear IH
  have E := Lib.hid hx; clear hx
  by_cases h : left - xs.length < 0
  · have L := Lib.hid (lft_neg (left := left) (k := xs.length + (xs.map bulkVal).sum) (by omega))
    go_enter Try.func57, Try.ntmps57
    go_wp2_with fail
    go_ret
    exact ⟨by rw [L.out]; rfl, Below.refl _ _⟩
  · go_enter Try.func57, Try.ntmps57
    go_wp2_with fail
    go_loopg [1, 5] xs.length (fun gk l i wr => ∃ (k : Nat) (lf : Int), k ≤ xs.length ∧ i = .int .i64 k ∧ gk = xs.length - k ∧ l = .int .i64 lf ∧ 0 ≤ lf ∧ lf ≤ 1048576 ∧ Hid (lft lf ((xs.drop k).map bulkVal).sum = lft left (xs.length + (xs.map bulkVal).sum)) ∧ Below w.heap.size w wr)
    case atStart => exact ⟨0, _, by omega, rfl, by omega, rfl, by omega, by omega, lft_step, Below.refl _ _⟩
    case round =>
      obtain ⟨k, lf, hk, rfl, rfl, rfl, hl0, hl1, hT, hbel⟩ := hrel
      by_cases hlt : k < xs.length
      · have hx := E.out.below hbel
        obtain ⟨b, off, A', c', rfl, hb, hI, hs, k0, k1, k2, k3, k4⟩ := hx.val_at hlt
        have HS := Lib.hid (And.intro hI hs); clear hI hs hx
        have D := Lib.hid (sum_drop bulkVal xs hlt)
        by_cases hf : lf < bulkVal xs[k]
        · have L := Lib.hid (lft_neg hf)
          go_wp2_with fail
          refine (IH'.out k hlt A' c' lf _ hl0 hl1 HS.out.2 (by have := HS.out.1.2.2.2; unfold maxLen at this; omega)).mono ?_
          rintro e w1 ⟨rfl, hb1⟩
          rw [L.out]
          go_wp2_with fail
          go_ret
          exact ⟨by rw [← hT.out, D.out, lft_out hf]; rfl, bTr hbel hb1⟩
        · have L := Lib.hid (lft_pos (left := lf) (k := bulkVal xs[k]) (by omega))
          go_wp2_with fail
          refine (IH'.out k hlt A' c' lf _ hl0 hl1 HS.out.2 (by have := HS.out.1.2.2.2; unfold maxLen at this; omega)).mono ?_
          rintro e w1 ⟨rfl, hb1⟩
          rw [L.out]
          go_wp2_with fail
          go_roundg (xs.length - (k + 1))
          case measure => omega
          case rel => exact ⟨k + 1, _, by omega, by go_num, rfl, rfl, by omega, by omega, by rw [lft_step, ← D.out]; exact hT, bTr hbel hb1⟩
      · have e : k = xs.length := by omega
        go_wp2_with fail
        go_ret
        exact ⟨by rw [← hT.out, e, List.drop_length]; simp [lft]; omega, hbel⟩

theorem szVal_any (v : GVal) : SzVal v := by
  refine GVal.ind (p := SzVal) (fun v IH => ?_) v
  intro A c left w h1 h2 hx hz
  obtain ⟨r, hr⟩ : ∃ r, r = lft left (bulkVal v) := ⟨_, rfl⟩
  rw [← hr]
  rw [bulkVal_eq] at hr
  have R := Lib.hid hr; clear hr
  have IH' := Lib.hid IH; clear IH
  have b0 := Lib.hid (bAl (bRf w) (.cells #[.int .i64 v.kind, .int .i64 v.n, .int .i64 v.x, .string v.s, .slice A v.l.length c] 35))
  have E := Lib.hid (hx.below b0.out); clear hx
  by_cases h : left - v.s.size < 0
  · have R' := Lib.hid (R.out.trans (lft_out (by omega)))
    go_enter Try.func16, Try.ntmps16
    go_wp2_with fail
    go_ret
    exact ⟨by rw [R'.out]; rfl, b0.out⟩
  · have R' := Lib.hid (R.out.trans lft_step.symm)
    go_enter Try.func16, Try.ntmps16
    go_wp2_with fail
    refine (szValS_of v.l A c _ _ (by omega) (by omega) E.out IH'.out).mono ?_
    rintro e w1 ⟨rfl, hb1⟩
    have b1 := Lib.hid (bTr b0.out hb1); clear hb1
    rcases lft_cases (left := left - v.s.size) (k := bulkVals v.l) (by omega) with L | ⟨l1, L, lo1, hi1, hk1⟩
    all_goals
      have R2 := Lib.hid (R'.out.trans L)
      rw [L]
      clear L
      go_wp2_with fail
      go_ret
      exact ⟨by rw [R2.out]; rfl, b1.out⟩

theorem szValS_any (xs : List GVal) (A : Option Addr) (c : Nat) (left : Int) (w : World) (h1 : 0 ≤ left) (h2 : left ≤ 1048576) (hx : SA w xs A c) :
    Calls Try.prog 57 #[.slice A xs.length c, .int .i64 left] w (Ret w (.int .i64 (lft left (bulkVals xs)))) := szValS_of xs A c left w h1 h2 hx fun i hi => szVal_any xs[i]

theorem szVal_law (v : GVal) (A : Option Addr) (c : Nat) (left : Int) (w : World) (h1 : 0 ≤ left) (h2 : left ≤ 1048576) (hI : VInt v) (hx : SA w v.l A c) :
    Calls Try.prog 16 #[.agg #[.int .i64 v.kind, .int .i64 v.n, .int .i64 v.x, .string v.s, .slice A v.l.length c], .int .i64 left] w (Ret w (.int .i64 (lft left (bulkVal v)))) :=
  szVal_any v A c left w h1 h2 hx (by have := hI.2.2.2; unfold maxLen at this; omega)

def ToVal (v : GVal) : Prop := ∀ (A : Option Addr) (c : Nat) (w : World), bulkVal v ≤ 1048576 → VInt v → SA w v.l A c →
    Calls Try.prog 18 #[.agg #[.int .i64 v.kind, .int .i64 v.n, .int .i64 v.x, .string v.s, .slice A v.l.length c]] w fun e w' => ∃ A' c', e = .returned (.agg #[.int .i64 v.kind, .int .i64 v.n, .int .i64 v.x, .string v.s, .slice A' v.l.length c']) ∧ SF w.heap.size w' v.l A' c' ∧ Below w.heap.size w w'

theorem toValS_of (xs : List GVal) (A : Option Addr) (c : Nat) (w : World) (hn : bulkVals xs ≤ 1048576) (hx : SA w xs A c) (IH : ∀ i (hi : i < xs.length), ToVal xs[i]) :
    Calls Try.prog 58 #[.slice A xs.length c] w (RetS w xs) := by
  have hn1 : xs.length ≤ 1048576 := by rw [bulkVals_eq] at hn; omega
  have hp : Hid (∀ k (h : k < xs.length), bulkVal xs[k] ≤ 1048576) := fun k h => by
    have := le_sum_at bulkVal xs h; rw [bulkVals_eq] at hn; omega
  have IH' := Lib.hid IH; clear IH
  clear hn
  have hmk := run_mk (P := Try.prog) Try.underlying38 infoVal xs.length (by omega) (by omega)
  have O0 := Lib.hid (OwnF.made (z := .agg #[.int .i64 0, .int .i64 0, .int .i64 0, .string .empty, .slice none 0 0]) (a := (⟨0, 0, 0, .empty, []⟩ : GVal)) w 40 xs.length (fun w => zeroVal w) (by unfold maxLen; omega) (by decide))
  have E := Lib.hid hx; clear hx
  have b0 := bAl (bRf w) (.cells (madeCells (Value.agg #[.int .i64 0, .int .i64 0, .int .i64 0, .string .empty, .slice none 0 0]).cells (xs.length * 5)) 40)
  go_enter Try.func58, Try.ntmps58
  go_wp2_with fail
  clear hmk
  go_loopg [4] xs.length (fun gk i wr => ∃ k : Nat, k ≤ xs.length ∧ i = .int .i64 k ∧ gk = xs.length - k ∧ OwnF wr w.heap.size 40 (.slice (some ⟨w.heap.size, 0, none⟩) xs.length xs.length) (fillL xs ⟨0, 0, 0, .empty, []⟩ k) ∧ Below w.heap.size w wr)
  case atStart => exact ⟨0, by omega, rfl, by omega, by rw [fillL_zero]; exact O0.out, b0⟩
  case round =>
    obtain ⟨k, hk, rfl, rfl, hown, hbel⟩ := hrel
    by_cases hlt : k < xs.length
    · obtain ⟨b, off, A', c', rfl, hb, hI, hs, k0, k1, k2, k3, k4⟩ := (E.out.below hbel).val_at hlt
      have HS := Lib.hid (And.intro hI hs); clear hI hs
      go_wp2_with fail
      refine (IH'.out k hlt A' c' _ (hp.out k hlt) HS.out.1 HS.out.2).mono ?_
      rintro e w1 ⟨A1, c1, rfl, hsf, hb1⟩
      have hown1 := hown.below hb1
      obtain ⟨⟨v0, v1, v2, v3, v4, g0, g1, g2, g3, g4⟩, f0, f1, f2, f3, f4⟩ := hown1.fact5 rfl (i := k) (by rw [fillL_len _ _ hk]; exact hlt)
      go_wp2_with fail
      go_roundg (xs.length - (k + 1))
      case measure => omega
      case rel =>
        have hs := hown.stored hb1 (i := k) (by rw [fillL_len _ _ hk]; exact hlt) (RF.val (v := xs[k]) HS.out.1 hsf)
        rw [fillL_set _ _ hlt] at hs
        exact ⟨k + 1, by omega, by go_num, rfl, hs, bStores (bTr hbel hb1) (Nat.le_refl _) (bTr hbel hb1).size (k * 5) [_, _, _, _, _]⟩
    · have e : k = xs.length := by omega
      go_wp2_with fail
      go_ret
      rw [e, fillL_all] at hown
      exact ⟨_, _, rfl, hown.sf.2, hbel⟩

theorem toVal_ind (v : GVal) : ToVal v := by
  refine GVal.ind (p := ToVal) (fun v IH => ?_) v
  intro A c w hn hI hx
  have hn' : bulkVals v.l ≤ 1048576 := by rw [bulkVal_eq] at hn; omega
  have IH' := Lib.hid IH; clear IH hn
  have E := Lib.hid hx; clear hx
  have HI := Lib.hid hI; clear hI
  go_enter Try.func18, Try.ntmps18
  go_wp2_with fail
  refine (toValS_of v.l A c _ hn' (E.out.below (bAl (bAl (bAl (bRf w) _) _) _)) IH'.out).mono ?_
  rintro e w1 ⟨A', c', rfl, hs, hb1⟩
  have B := Lib.hid hb1
  obtain ⟨hc, hf⟩ := bCell hb1
  have hz : w.heap.size + 1 + 1 < w1.heap.size := by have := hb1.size; simp at this; omega
  have S := Lib.hid hs
  clear hb1 hs
  go_wp2_with fail
  refine bodyPost_ret (v := .agg #[.int .i64 v.kind, .int .i64 v.n, .int .i64 v.x, .string v.s, .slice A' v.l.length c']) (by simp [results, Try.results18, go_sem, hc, hz]) rfl ?_
  refine ⟨A', c', rfl, ?_, ?_⟩
  · refine SF.mono (SF.set (SF.set (SF.set (SF.set (SF.set (SF.set S.out ?_ _) ?_ _) ?_ _) ?_ _) ?_ _) ?_ _) ?_
    all_goals (simp; try omega)
  · refine Below.setCell (Below.setCell (Below.setCell (Below.setCell (Below.setCell (Below.setCell (bTr (bAl (bAl (bAl (bRf w) _) _) _) B.out) ?_ _) ?_ _) ?_ _) ?_ _) ?_ _) ?_ _
    all_goals (simp; try omega)

theorem toValS_any (xs : List GVal) (A : Option Addr) (c : Nat) (w : World) (hn : bulkVals xs ≤ 1048576) (hx : SA w xs A c) :
    Calls Try.prog 58 #[.slice A xs.length c] w (RetS w xs) := toValS_of xs A c w hn hx fun i hi => toVal_ind xs[i]
theorem toVal_any (v : GVal) (A : Option Addr) (c : Nat) (w : World) (hn : bulkVal v ≤ 1048576) (hI : VInt v) (hx : SA w v.l A c) :
    Calls Try.prog 18 #[.agg #[.int .i64 v.kind, .int .i64 v.n, .int .i64 v.x, .string v.s, .slice A v.l.length c]] w fun e w' => ∃ A' c', e = .returned (.agg #[.int .i64 v.kind, .int .i64 v.n, .int .i64 v.x, .string v.s, .slice A' v.l.length c']) ∧ SF w.heap.size w' v.l A' c' ∧ Below w.heap.size w w' :=
  toVal_ind v A c w hn hI hx
end Go.Proofs.Ytblcmajhdndmfaa
