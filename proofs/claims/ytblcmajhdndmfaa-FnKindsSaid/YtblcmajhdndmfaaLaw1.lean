/- Contracts of the laws' own helpers over steps and losses: how much they hold, copies, equality. -/
import Derived.Test.YtblcmajhdndmfaaChecked
import Derived.Test.YtblcmajhdndmfaaData
import Derived.StillTailTactics
import Derived.Outline
namespace Go.Proofs.Ytblcmajhdndmfaa
open Go.RowKit
set_option linter.unusedVariables false
set_option maxRecDepth 100000

theorem run_mk {P : Program} {t e : TypeId} {z : Value} {size bytes : Nat} (ht : P.underlying t = some (.slice e)) (hinfo : (P.info? e).map (fun i => (i.zero, i.size, i.bytes)) = some (some z, size, bytes))
    (n : Nat) (hbytes : bytes * n ≤ 281474976710656) (h63 : n ≤ 9223372036854775807) (w : World) :
    (Instr.makeSlice t (.int .i64 (n : Int)) (.int .i64 (n : Int))).run P w = .ok (.slice (some ⟨w.heap.size, 0, none⟩) n n) (w.alloc (.cells (madeCells z.cells (n * size)) e)) := by
  obtain ⟨i, hi, hz, hsz, hby⟩ := info_parts hinfo
  subst hsz hby
  have hb : (i.bytes : Int) * (n : Int) ≤ 281474976710656 := by
    have h : ((i.bytes * n : Nat) : Int) ≤ 281474976710656 := by omega
    rwa [Int.natCast_mul] at h
  have hr := run_make (P := P) w t e i z ht hi hz .i64 .i64 n n (by omega) (by omega) hb (by omega)
  simp only [Int.toNat_natCast] at hr
  exact hr

theorem infoStep : (Try.prog.info? 109).map (fun i => (i.zero, i.size, i.bytes)) = some (some (.agg #[.int .i64 0, .bool false]), 2, 16) := by kernel_rfl
theorem infoLoss : (Try.prog.info? 88).map (fun i => (i.zero, i.size, i.bytes)) = some (some (.agg #[.int .i64 0, .slice none 0 0]), 2, 32) := by kernel_rfl

theorem szStepS_any (xs : List GStep) (A : Option Addr) (c : Nat) (left : Int) (w : World) (h1 : 0 ≤ left) (h2 : left ≤ 1048576) (hx : SA w xs A c) :
    Calls Try.prog 112 #[.slice A xs.length c, .int .i64 left] w (Ret w (.int .i64 (lft left xs.length))) := by
  have hl := hx.len
  unfold maxLen at hl
  have hl2 : xs.length ≤ 9223372036854775807 := by omega
  clear hx hl
  by_cases h : left - xs.length < 0
  · have e := lft_neg (left := left) (k := xs.length) (by omega)
    have E := Lib.hid e; clear e
    go_enter Try.func112, Try.ntmps112
    go_wp2
    go_ret
    exact ⟨by rw [E.out]; rfl, Below.refl _ _⟩
  · have e := lft_pos (left := left) (k := xs.length) (by omega)
    have E := Lib.hid e; clear e
    go_enter Try.func112, Try.ntmps112
    go_wp2
    go_ret
    exact ⟨by rw [E.out]; rfl, Below.refl _ _⟩

theorem szLoss_any (x : GLoss) (A : Option Addr) (c : Nat) (left : Int) (w : World) (h1 : 0 ≤ left) (h2 : left ≤ 1048576) (hx : SA w x.p A c) :
    Calls Try.prog 88 #[.agg #[.int .i64 x.kind, .slice A x.p.length c], .int .i64 left] w (Ret w (.int .i64 (lft left (bulkLoss x)))) := by
  unfold bulkLoss
  have E := Lib.hid hx; clear hx
  have b0 := bAl (bRf w) (.cells #[.int .i64 x.kind, .slice A x.p.length c] 104)
  by_cases h : left - x.p.length < 0
  · have L := Lib.hid (lft_neg (left := left) (k := x.p.length) (by omega))
    go_enter Try.func88, Try.ntmps88
    go_wp2_with fail
    refine (szStepS_any x.p A c left _ h1 h2 (E.out.below b0)).mono ?_
    rintro e w1 ⟨rfl, hb1⟩
    rw [L.out]
    go_wp2_with fail
    go_ret
    exact ⟨by rw [L.out]; rfl, bTr b0 hb1⟩
  · have L := Lib.hid (lft_pos (left := left) (k := x.p.length) (by omega))
    go_enter Try.func88, Try.ntmps88
    go_wp2_with fail
    refine (szStepS_any x.p A c left _ h1 h2 (E.out.below b0)).mono ?_
    rintro e w1 ⟨rfl, hb1⟩
    rw [L.out]
    go_wp2_with fail
    go_ret
    exact ⟨by rw [L.out]; rfl, bTr b0 hb1⟩

theorem szLossS_any (xs : List GLoss) (A : Option Addr) (c : Nat) (left : Int) (w : World) (h1 : 0 ≤ left) (h2 : left ≤ 1048576) (hx : SA w xs A c) :
    Calls Try.prog 49 #[.slice A xs.length c, .int .i64 left] w (Ret w (.int .i64 (lft left (bulkLossS xs)))) := by
  have hl := hx.len
  unfold maxLen at hl
  have hl2 : xs.length ≤ 9223372036854775807 := by omega
  clear hl
  unfold bulkLossS
  have E := Lib.hid hx; clear hx
  by_cases h : left - xs.length < 0
  · have L := Lib.hid (lft_neg (left := left) (k := xs.length + (xs.map bulkLoss).sum) (by omega))
    go_enter Try.func49, Try.ntmps49
    go_wp2_with fail
    go_ret
    exact ⟨by rw [L.out]; rfl, Below.refl _ _⟩
  · go_enter Try.func49, Try.ntmps49
    go_wp2_with fail
    go_loopg [1, 5] xs.length (fun gk l i wr => ∃ (k : Nat) (lf : Int), k ≤ xs.length ∧ i = .int .i64 k ∧ gk = xs.length - k ∧ l = .int .i64 lf ∧ 0 ≤ lf ∧ lf ≤ 1048576 ∧ Hid (lft lf ((xs.drop k).map bulkLoss).sum = lft left (xs.length + (xs.map bulkLoss).sum)) ∧ Below w.heap.size w wr)
    case atStart => exact ⟨0, _, by omega, rfl, by omega, rfl, by omega, by omega, lft_step, Below.refl _ _⟩
    case round =>
      obtain ⟨k, lf, hk, rfl, rfl, rfl, hl0, hl1, hT, hbel⟩ := hrel
      by_cases hlt : k < xs.length
      · have hx := E.out.below hbel
        obtain ⟨b, off, A', c', rfl, hb, hI, hs, k0, k1⟩ := hx.loss_at hlt
        have D := Lib.hid (sum_drop bulkLoss xs hlt)
        by_cases hf : lf < bulkLoss xs[k]
        · have L := Lib.hid (lft_neg hf)
          go_wp2_with fail
          refine (szLoss_any xs[k] A' c' lf _ hl0 hl1 hs).mono ?_
          rintro e w1 ⟨rfl, hb1⟩
          rw [L.out]
          go_wp2_with fail
          go_ret
          exact ⟨by rw [← hT.out, D.out, lft_out hf]; rfl, bTr hbel hb1⟩
        · have L := Lib.hid (lft_pos (left := lf) (k := bulkLoss xs[k]) (by omega))
          go_wp2_with fail
          refine (szLoss_any xs[k] A' c' lf _ hl0 hl1 hs).mono ?_
          rintro e w1 ⟨rfl, hb1⟩
          rw [L.out]
          go_wp2_with fail
          go_roundg (xs.length - (k + 1))
          case measure => omega
          case rel => exact ⟨k + 1, _, by omega, by go_num, rfl, rfl, by omega, by omega, by rw [lft_step, ← D.out]; exact hT, bTr hbel hb1⟩
      · have e : k = xs.length := by omega
        go_wp2_with fail
        go_ret
        exact ⟨by rw [← hT.out, e, List.drop_length]; simp [lft]; omega, hbel⟩

theorem toStep_any (s : GStep) (w : World) :
    Calls Try.prog 142 #[.agg #[.int .i64 s.at_, .bool s.name]] w (Ret w (.agg #[.int .i64 s.at_, .bool s.name])) := by
  go_enter Try.func142, Try.ntmps142
  go_wp2
  refine bodyPost_ret (v := .agg #[.int .i64 s.at_, .bool s.name]) (by simp [results, Try.results142, go_sem]) rfl ⟨rfl, ?_⟩
  exact bAl (bAl (bAl (bRf _) _) _) _

theorem toStepS_any (xs : List GStep) (A : Option Addr) (c : Nat) (w : World) (hn : xs.length ≤ 1048576) (hx : SA w xs A c) :
    Calls Try.prog 113 #[.slice A xs.length c] w (RetS w xs) := by
  have hmk := run_mk (P := Try.prog) Try.underlying77 infoStep xs.length (by omega) (by omega)
  have O0 := Lib.hid (OwnF.made (z := .agg #[.int .i64 0, .bool false]) (a := (⟨0, false⟩ : GStep)) w 109 xs.length (fun _ => ⟨rfl, rfl, I64.zero⟩) (by unfold maxLen; omega) (by decide))
  have E := Lib.hid hx; clear hx
  have b0 := bAl (bRf w) (.cells (madeCells (Value.agg #[.int .i64 0, .bool false]).cells (xs.length * 2)) 109)
  go_enter Try.func113, Try.ntmps113
  go_wp2_with fail
  clear hmk
  go_loopg [4] xs.length (fun gk i wr => ∃ k : Nat, k ≤ xs.length ∧ i = .int .i64 k ∧ gk = xs.length - k ∧ OwnF wr w.heap.size 109 (.slice (some ⟨w.heap.size, 0, none⟩) xs.length xs.length) (fillL xs ⟨0, false⟩ k) ∧ Below w.heap.size w wr)
  case atStart => exact ⟨0, by omega, rfl, by omega, by rw [fillL_zero]; exact O0.out, b0⟩
  case round =>
    obtain ⟨k, hk, rfl, rfl, hown, hbel⟩ := hrel
    by_cases hlt : k < xs.length
    · obtain ⟨b, off, rfl, hb, hI, k0, k1⟩ := (E.out.below hbel).step_at hlt
      go_wp2_with fail
      refine (toStep_any xs[k] _).mono ?_
      rintro e w1 ⟨rfl, hb1⟩
      have hown1 := hown.below hb1
      obtain ⟨⟨v0, v1, g0, g1⟩, f0, f1⟩ := hown1.fact2 rfl (i := k) (by rw [fillL_len _ _ hk]; exact hlt)
      have hz := hb1.size
      go_wp2_with fail
      go_roundg (xs.length - (k + 1))
      case measure => omega
      case rel =>
        have hs := hown.stored hb1 (i := k) (by rw [fillL_len _ _ hk]; exact hlt) (RF.step (base := wr.heap.size) (w := w1) xs[k] hI)
        rw [fillL_set _ _ hlt] at hs
        exact ⟨k + 1, by omega, by go_num, rfl, hs, bStores (bTr hbel hb1) (Nat.le_refl _) (bTr hbel hb1).size (k * 2) [_, _]⟩
    · have e : k = xs.length := by omega
      go_wp2_with fail
      go_ret
      rw [e, fillL_all] at hown
      exact ⟨_, _, rfl, hown.sf.2, hbel⟩

theorem toLoss_any (x : GLoss) (A : Option Addr) (c : Nat) (w : World) (hn : x.p.length ≤ 1048576) (hI : I64 x.kind) (hx : SA w x.p A c) :
    Calls Try.prog 90 #[.agg #[.int .i64 x.kind, .slice A x.p.length c]] w fun e w' => ∃ A' c', e = .returned (.agg #[.int .i64 x.kind, .slice A' x.p.length c']) ∧ SF w.heap.size w' x.p A' c' ∧ Below w.heap.size w w' := by
  have E := Lib.hid hx; clear hx
  have b0 := bAl (bAl (bRf w) (.cells #[.int .i64 x.kind, .slice A x.p.length c] 104)) (.cells #[.int .i64 0, .slice none 0 0] 88)
  go_enter Try.func90, Try.ntmps90
  go_wp2_with fail
  refine (toStepS_any x.p A c _ hn (E.out.below (bAl (bAl (bAl (bRf w) _) _) _))).mono ?_
  rintro e w1 ⟨A', c', rfl, hs, hb1⟩
  have B := Lib.hid hb1
  obtain ⟨hc, hf⟩ := bCell hb1
  have hz : w.heap.size + 1 + 1 < w1.heap.size := by have := hb1.size; simp at this; omega
  clear hb1
  go_wp2_with fail
  refine bodyPost_ret (v := .agg #[.int .i64 x.kind, .slice A' x.p.length c']) (by simp [results, Try.results90, go_sem, hc]) rfl ?_
  exact ⟨A', c', rfl, (((hs.set (by simp) _).set (by simp) _).set (by simp) _).mono (by simp; omega), ((((bTr (bAl (bAl (bAl (bRf w) _) _) _) B.out).setCell (by simp; omega) _).setCell (by simp) _).setCell (by simp) _)⟩

theorem toLossS_any (xs : List GLoss) (A : Option Addr) (c : Nat) (w : World) (hn : bulkLossS xs ≤ 1048576) (hx : SA w xs A c) :
    Calls Try.prog 52 #[.slice A xs.length c] w (RetS w xs) := by
  have hn1 : xs.length ≤ 1048576 := by unfold bulkLossS at hn; omega
  have hp : Hid (∀ k (h : k < xs.length), xs[k].p.length ≤ 1048576) := fun k h => by
    have := le_sum_at bulkLoss xs h; unfold bulkLossS at hn; simp only [bulkLoss] at this hn; omega
  clear hn
  have hmk := run_mk (P := Try.prog) Try.underlying28 infoLoss xs.length (by omega) (by omega)
  have O0 := Lib.hid (OwnF.made (z := .agg #[.int .i64 0, .slice none 0 0]) (a := (⟨0, []⟩ : GLoss)) w 88 xs.length (fun _ => ⟨none, 0, rfl, I64.zero, by simp, by simp, .inl ⟨rfl, rfl, fun _ => rfl⟩⟩) (by unfold maxLen; omega) (by decide))
  have E := Lib.hid hx; clear hx
  have b0 := bAl (bRf w) (.cells (madeCells (Value.agg #[.int .i64 0, .slice none 0 0]).cells (xs.length * 2)) 88)
  go_enter Try.func52, Try.ntmps52
  go_wp2_with fail
  clear hmk
  go_loopg [4] xs.length (fun gk i wr => ∃ k : Nat, k ≤ xs.length ∧ i = .int .i64 k ∧ gk = xs.length - k ∧ OwnF wr w.heap.size 88 (.slice (some ⟨w.heap.size, 0, none⟩) xs.length xs.length) (fillL xs ⟨0, []⟩ k) ∧ Below w.heap.size w wr)
  case atStart => exact ⟨0, by omega, rfl, by omega, by rw [fillL_zero]; exact O0.out, b0⟩
  case round =>
    obtain ⟨k, hk, rfl, rfl, hown, hbel⟩ := hrel
    by_cases hlt : k < xs.length
    · obtain ⟨b, off, A', c', rfl, hb, hI, hs, k0, k1⟩ := (E.out.below hbel).loss_at hlt
      go_wp2_with fail
      refine (toLoss_any xs[k] A' c' _ (hp.out k hlt) hI hs).mono ?_
      rintro e w1 ⟨A1, c1, rfl, hsf, hb1⟩
      have hown1 := hown.below hb1
      obtain ⟨⟨v0, v1, g0, g1⟩, f0, f1⟩ := hown1.fact2 rfl (i := k) (by rw [fillL_len _ _ hk]; exact hlt)
      go_wp2_with fail
      go_roundg (xs.length - (k + 1))
      case measure => omega
      case rel =>
        have hs := hown.stored hb1 (i := k) (by rw [fillL_len _ _ hk]; exact hlt) (RF.loss (x := xs[k]) hI hsf)
        rw [fillL_set _ _ hlt] at hs
        exact ⟨k + 1, by omega, by go_num, rfl, hs, bStores (bTr hbel hb1) (Nat.le_refl _) (bTr hbel hb1).size (k * 2) [_, _]⟩
    · have e : k = xs.length := by omega
      go_wp2_with fail
      go_ret
      rw [e, fillL_all] at hown
      exact ⟨_, _, rfl, hown.sf.2, hbel⟩

theorem eqStep_any (s t : GStep) (w : World) :
    Calls Try.prog 119 #[.agg #[.int .i64 s.at_, .bool s.name], .agg #[.int .i64 t.at_, .bool t.name]] w (Ret w (.bool (decide (s = t)))) := by
  have b0 := bAl (bAl (bRf w) (.cells #[.int .i64 s.at_, .bool s.name] 109)) (.cells #[.int .i64 t.at_, .bool t.name] 109)
  have E : Hid (s = t ↔ s.at_ = t.at_ ∧ s.name = t.name) := by
    constructor
    · rintro rfl; exact ⟨rfl, rfl⟩
    · intro h; cases s; cases t; simp_all
  obtain ⟨r, hr⟩ : ∃ r, r = decide (s = t) := ⟨_, rfl⟩
  rw [← hr]
  have R := Lib.hid hr; clear hr
  obtain ⟨a, n⟩ := s
  obtain ⟨a', n'⟩ := t
  by_cases h1 : a = a'
  · subst h1
    cases n <;> cases n'
    all_goals
      go_enter Try.func119, Try.ntmps119
      go_wp2
      go_ret
      exact ⟨by rw [R.out]; simp, b0⟩
  · have D := Lib.hid (R.out.trans (decide_eq_false fun h => h1 (E.out.1 h).1))
    go_enter Try.func119, Try.ntmps119
    go_wp2
    go_ret
    exact ⟨by rw [D.out]; rfl, b0⟩

end Go.Proofs.Ytblcmajhdndmfaa
