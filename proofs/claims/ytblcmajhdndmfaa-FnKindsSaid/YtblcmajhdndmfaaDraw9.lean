/- Contracts (what is wanted for draws): decimal numbers made. -/
import Derived.Test.YtblcmajhdndmfaaDraw8
namespace Go.Proofs.Ytblcmajhdndmfaa
open Go.RowKit
set_option linter.unusedVariables false
set_option maxRecDepth 100000

def decB (n x : Int) (b : Bool) : Value := .tuple #[.agg #[.int .i64 n, .int .i64 x], .bool b]
def RetDB (w : World) (e : Ending) (w' : World) : Prop := ∃ n x b, e = .returned (decB n x b) ∧ I64 n ∧ I64 x ∧ Below w.heap.size w w'
theorem set2 {w w' : World} (h : Below w.heap.size w w') {b : Nat} (hb : w.heap.size ≤ b) (u v : Value) : Below w.heap.size w ((w'.setCell ⟨b, 0, none⟩ u).setCell ⟨b, 1, none⟩ v) :=
  (h.setCell (p := ⟨b, 0, none⟩) hb u).setCell (p := ⟨b, 1, none⟩) hb v

set_option maxHeartbeats 2000000 in
theorem specDecNewW_any (n x : Int) (w : World) (hI : I64 n) : Calls Try.prog 160 #[.int .i64 n, .int .i64 x] w (RetDB w) := by
  have P0 := Lib.hid (Blk.new w 155 #[.int .i64 0, .int .i64 0])
  have B0 := Lib.hid (bAl (bRf w) (.cells #[.int .i64 0, .int .i64 0] 155))
  have HI := Lib.hid hI; clear hI
  go_enter Try.func160, Try.ntmps160
  go_wp2_with fail
  refine (specDigitsW_any n _ HI.out).mono ?_
  rintro e w1 ⟨k, rfl, hk, hb1⟩
  have P1 := Lib.hid (P0.out.below hb1)
  have B1 := Lib.hid (bTr B0.out hb1); clear hb1
  have hz1 : w.heap.size < w1.heap.size := P1.out.lt
  have f0 := P1.out.frozen 0
  have f1 := P1.out.frozen 1
  obtain ⟨p0, p1⟩ := P1.out.c2
  by_cases h17 : k > 17
  · have h17' : (17 : Int) < k := h17
    go_wp2_with fail
    refine bodyPost_ret (v := decB 0 0 false) (by simp [results, decB, Try.results160, go_sem, *] <;> rfl) rfl ?_
    exact ⟨0, 0, false, rfl, I64.zero, I64.zero, set2 B1.out (Nat.le_refl _) _ _⟩
  have h17' : ¬ ((17 : Int) < k) := h17
  cases hd : decide (-40 ≤ x ∧ x ≤ 40) with
  | false =>
    have HD := Lib.hid hd; clear hd f0 f1 p0 p1
    go_wp2_with fail
    refine (l1In_any _ _ _ _).mono ?_
    rintro e w2 ⟨rfl, hb2⟩
    rw [HD.out]
    have P2 := Lib.hid (P1.out.below hb2)
    have B2 := Lib.hid (bTr B1.out hb2); clear hb2
    have hz2 : w.heap.size < w2.heap.size := P2.out.lt
    have f0 := P2.out.frozen 0
    have f1 := P2.out.frozen 1
    obtain ⟨p0, p1⟩ := P2.out.c2
    go_wp2_with fail
    refine bodyPost_ret (v := decB 0 0 false) (by simp [results, decB, Try.results160, go_sem, *] <;> rfl) rfl ?_
    exact ⟨0, 0, false, rfl, I64.zero, I64.zero, set2 B2.out (Nat.le_refl _) _ _⟩
  | true =>
    have hx := of_decide_eq_true hd
    have HD := Lib.hid hd; clear hd f0 f1 p0 p1
    by_cases hn0 : n = 0
    · have hnb : (n == 0) = true := by simp [hn0]
      clear hn0
      go_wp2_with fail
      refine (l1In_any _ _ _ _).mono ?_
      rintro e w2 ⟨rfl, hb2⟩
      rw [HD.out]
      have P2 := Lib.hid (P1.out.below hb2)
      have B2 := Lib.hid (bTr B1.out hb2); clear hb2
      have hz2 : w.heap.size < w2.heap.size := P2.out.lt
      have f0 := P2.out.frozen 0
      have f1 := P2.out.frozen 1
      obtain ⟨p0, p1⟩ := P2.out.c2
      go_wp2_with fail
      refine bodyPost_ret (v := decB 0 0 true) (by simp [results, decB, Try.results160, go_sem, *] <;> rfl) rfl ?_
      exact ⟨0, 0, true, rfl, I64.zero, I64.zero, set2 B2.out (Nat.le_refl _) _ _⟩
    have hnb : (n == 0) = false := by simp [hn0]
    clear hn0
    go_wp2_with fail
    refine (l1In_any _ _ _ _).mono ?_
    rintro e w2 ⟨rfl, hb2⟩
    rw [HD.out]
    have P2 := Lib.hid (P1.out.below hb2)
    have B2 := Lib.hid (bTr B1.out hb2); clear hb2
    have hq : ∀ x : Int, I64 x → I64 (x.tdiv 10) := fun x hx => by
      have h1 : (x.tdiv 10).natAbs = x.natAbs / 10 := by rw [Int.natAbs_tdiv]; rfl
      obtain ⟨h2, h3⟩ := hx
      refine ⟨?_, ?_⟩ <;> omega
    have HQ := Lib.hid hq; clear hq
    go_wp2_with fail
    go_loopg [0, 1] (40 - x).toNat (fun gk nn xx wr => ∃ (n x : Int), nn = .int .i64 n ∧ xx = .int .i64 x ∧ gk = (40 - x).toNat ∧ I64 n ∧ -40 ≤ x ∧ x ≤ 40 ∧ wr = w2)
    case atStart => exact ⟨n, x, rfl, rfl, rfl, HI.out, hx.1, hx.2, rfl⟩
    case round =>
      clear h17 h17' hx HD hk hnb
      obtain ⟨n, x, rfl, rfl, rfl, hn, hx1, hx2, rfl⟩ := hrel
      have hni1 := hn.1; have hni2 := hn.2
      by_cases hc : n.tmod 10 = 0 ∧ x < 0
      · have h1 : (n.tmod 10 == 0) = true := by simp [hc.1]
        have h2 := hc.2
        have HN := Lib.hid (HQ.out n hn)
        clear hc hn
        go_wp2_with fail
        go_roundg (40 - (x + 1)).toNat
        case measure => omega
        case rel => exact ⟨_, _, rfl, rfl, rfl, HN.out, by omega, by omega, rfl⟩
      · by_cases hm : n.tmod 10 = 0
        · have h1 : (n.tmod 10 == 0) = true := by simp [hm]
          have hx0 : ¬ (x < 0) := fun h => hc ⟨hm, h⟩
          have HN := Lib.hid hn
          clear hc hm hn
          go_wp2_with fail
          go_loopg [0, 1] x.toNat (fun gk nn xx wr => ∃ (n x : Int), nn = .int .i64 n ∧ xx = .int .i64 x ∧ gk = x.toNat ∧ I64 n ∧ -40 ≤ x ∧ x ≤ 40 ∧ Blk wr w.heap.size 155 #[.int .i64 0, .int .i64 0] ∧ Below w.heap.size w wr)
          case atStart => exact ⟨n, x, rfl, rfl, rfl, HN.out, hx1, hx2, P2.out, B2.out⟩
          case round =>
            clear hx1 hx2 hni1 hni2 h1 hx0
            obtain ⟨n, x, rfl, rfl, rfl, hn, hx1, hx2, hP, hbel⟩ := hrel
            have hzr : w.heap.size < wr.heap.size := hP.lt
            have HP := Lib.hid (And.intro hP (And.intro hbel hn)); clear hP hbel hn
            by_cases hc : 0 < x
            · go_wp2_with fail
              refine (specDigitsW_any n _ HP.out.2.2).mono ?_
              rintro e w3 ⟨k, rfl, hk, hb3⟩
              have P3 := Lib.hid (HP.out.1.below hb3)
              have B3 := Lib.hid (bTr HP.out.2.1 hb3); clear hb3
              have hz3 : w.heap.size < w3.heap.size := P3.out.lt
              have hw := w64 (n * 10)
              by_cases h16 : 16 < k
              · have f0 := P3.out.frozen 0
                have f1 := P3.out.frozen 1
                obtain ⟨p0, p1⟩ := P3.out.c2
                go_wp2_with fail
                refine bodyPost_ret (v := decB 0 0 false) (by simp [results, decB, Try.results160, go_sem, *] <;> rfl) rfl ?_
                exact ⟨0, 0, false, rfl, I64.zero, I64.zero, set2 B3.out (Nat.le_refl _) _ _⟩
              · have HW := Lib.hid hw; clear hw
                go_wp2_with fail
                go_roundg (x - 1).toNat
                case measure => omega
                case rel => exact ⟨_, _, rfl, rfl, rfl, HW.out, by omega, by omega, P3.out, B3.out⟩
            · have PX := Lib.hid (Blk.new wr 155 #[.int .i64 n, .int .i64 x])
              go_wp2_with fail
              refine (specDecOkW_any n x _ HP.out.2.2).mono ?_
              rintro e w3 ⟨b, rfl, hb3⟩
              have P3 := Lib.hid ((HP.out.1.alloc (.cells #[.int .i64 n, .int .i64 x] 155)).below hb3)
              have X3 := Lib.hid (PX.out.below hb3)
              have B3 := Lib.hid (bTr (bAl HP.out.2.1 _) hb3); clear hb3
              have hz3 : w.heap.size < w3.heap.size := P3.out.lt
              have hz4 : wr.heap.size < w3.heap.size := X3.out.lt
              have n1 : wr.heap.size ≠ w.heap.size := by omega
              have n2 : w.heap.size ≠ wr.heap.size := by omega
              have f0 := P3.out.frozen 0
              have f1 := P3.out.frozen 1
              obtain ⟨p0, p1⟩ := P3.out.c2
              obtain ⟨q0, q1⟩ := X3.out.c2
              cases b
              · go_wp2_with fail
                refine bodyPost_ret (v := decB 0 0 false) (by simp [results, decB, Try.results160, go_sem, *] <;> rfl) rfl ?_
                exact ⟨0, 0, false, rfl, I64.zero, I64.zero, set2 B3.out (Nat.le_refl _) _ _⟩
              · go_wp2_with fail
                refine bodyPost_ret (v := decB n x true) (by simp [results, decB, Try.results160, go_sem, *] <;> rfl) rfl ?_
                exact ⟨n, x, true, rfl, HP.out.2.2, ⟨by omega, by omega⟩, set2 B3.out (Nat.le_refl _) _ _⟩
        · have h1 : (n.tmod 10 == 0) = false := by simp [hm]
          have HN := Lib.hid hn
          clear hc hm hn
          go_wp2_with fail
          go_loopg [0, 1] x.toNat (fun gk nn xx wr => ∃ (n x : Int), nn = .int .i64 n ∧ xx = .int .i64 x ∧ gk = x.toNat ∧ I64 n ∧ -40 ≤ x ∧ x ≤ 40 ∧ Blk wr w.heap.size 155 #[.int .i64 0, .int .i64 0] ∧ Below w.heap.size w wr)
          case atStart => exact ⟨n, x, rfl, rfl, rfl, HN.out, hx1, hx2, P2.out, B2.out⟩
          case round =>
            clear hx1 hx2 hni1 hni2 h1
            obtain ⟨n, x, rfl, rfl, rfl, hn, hx1, hx2, hP, hbel⟩ := hrel
            have hzr : w.heap.size < wr.heap.size := hP.lt
            have HP := Lib.hid (And.intro hP (And.intro hbel hn)); clear hP hbel hn
            by_cases hc : 0 < x
            · go_wp2_with fail
              refine (specDigitsW_any n _ HP.out.2.2).mono ?_
              rintro e w3 ⟨k, rfl, hk, hb3⟩
              have P3 := Lib.hid (HP.out.1.below hb3)
              have B3 := Lib.hid (bTr HP.out.2.1 hb3); clear hb3
              have hz3 : w.heap.size < w3.heap.size := P3.out.lt
              have hw := w64 (n * 10)
              by_cases h16 : 16 < k
              · have f0 := P3.out.frozen 0
                have f1 := P3.out.frozen 1
                obtain ⟨p0, p1⟩ := P3.out.c2
                go_wp2_with fail
                refine bodyPost_ret (v := decB 0 0 false) (by simp [results, decB, Try.results160, go_sem, *] <;> rfl) rfl ?_
                exact ⟨0, 0, false, rfl, I64.zero, I64.zero, set2 B3.out (Nat.le_refl _) _ _⟩
              · have HW := Lib.hid hw; clear hw
                go_wp2_with fail
                go_roundg (x - 1).toNat
                case measure => omega
                case rel => exact ⟨_, _, rfl, rfl, rfl, HW.out, by omega, by omega, P3.out, B3.out⟩
            · have PX := Lib.hid (Blk.new wr 155 #[.int .i64 n, .int .i64 x])
              go_wp2_with fail
              refine (specDecOkW_any n x _ HP.out.2.2).mono ?_
              rintro e w3 ⟨b, rfl, hb3⟩
              have P3 := Lib.hid ((HP.out.1.alloc (.cells #[.int .i64 n, .int .i64 x] 155)).below hb3)
              have X3 := Lib.hid (PX.out.below hb3)
              have B3 := Lib.hid (bTr (bAl HP.out.2.1 _) hb3); clear hb3
              have hz3 : w.heap.size < w3.heap.size := P3.out.lt
              have hz4 : wr.heap.size < w3.heap.size := X3.out.lt
              have n1 : wr.heap.size ≠ w.heap.size := by omega
              have n2 : w.heap.size ≠ wr.heap.size := by omega
              have f0 := P3.out.frozen 0
              have f1 := P3.out.frozen 1
              obtain ⟨p0, p1⟩ := P3.out.c2
              obtain ⟨q0, q1⟩ := X3.out.c2
              cases b
              · go_wp2_with fail
                refine bodyPost_ret (v := decB 0 0 false) (by simp [results, decB, Try.results160, go_sem, *] <;> rfl) rfl ?_
                exact ⟨0, 0, false, rfl, I64.zero, I64.zero, set2 B3.out (Nat.le_refl _) _ _⟩
              · go_wp2_with fail
                refine bodyPost_ret (v := decB n x true) (by simp [results, decB, Try.results160, go_sem, *] <;> rfl) rfl ?_
                exact ⟨n, x, true, rfl, HP.out.2.2, ⟨by omega, by omega⟩, set2 B3.out (Nat.le_refl _) _ _⟩
end Go.Proofs.Ytblcmajhdndmfaa
