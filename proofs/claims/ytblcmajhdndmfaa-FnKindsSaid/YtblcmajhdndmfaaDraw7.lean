/- Contracts (what is wanted for draws): powers, digits, numbers. -/
import Derived.Test.YtblcmajhdndmfaaDraw3
namespace Go.Proofs.Ytblcmajhdndmfaa
open Go.RowKit
set_option linter.unusedVariables false
set_option maxRecDepth 100000

def RetW (w : World) (e : Ending) (w' : World) : Prop := ∃ k : Int, e = .returned (.int .i64 k) ∧ I64 k ∧ Below w.heap.size w w'
def RetBo (w : World) (e : Ending) (w' : World) : Prop := ∃ b : Bool, e = .returned (.bool b) ∧ Below w.heap.size w w'
theorem w64 (y : Int) : I64 (wrap64 y) := by unfold wrap64; exact ⟨by omega, by omega⟩

theorem specPow_any (b k : Int) (w : World) (hb : b = 5) (hk0 : 0 ≤ k) (hk1 : k ≤ 17) : Calls Try.prog 161 #[.int .i64 b, .int .i64 k] w (RetW w) := by
  subst hb
  obtain ⟨m, rfl⟩ : ∃ m : Nat, k = m := ⟨k.toNat, by omega⟩
  have hd : decide ((0 : Int) ≤ m ∧ (m : Int) ≤ 17) = true := decide_eq_true ⟨hk0, hk1⟩
  have HD := Lib.hid hd; clear hd
  go_enter Try.func161, Try.ntmps161
  go_wp2_with fail
  refine (l1In_any _ _ _ _).mono ?_
  rintro e w1 ⟨rfl, hb1⟩
  rw [HD.out]
  have B1 := Lib.hid hb1; clear hb1
  go_wp2_with fail
  go_loopg [5, 6] m (fun gk nn i wr => ∃ (k : Nat) (n : Int), k ≤ m ∧ nn = .int .i64 n ∧ i = .int .i64 k ∧ gk = m - k ∧ Hid (I64 n) ∧ wr = w1)
  case atStart => exact ⟨0, 1, by omega, rfl, rfl, by omega, ⟨by omega, by omega⟩, rfl⟩
  case round =>
    obtain ⟨k, n, hk, rfl, rfl, rfl, hn, rfl⟩ := hrel
    by_cases hlt : k < m
    · have hi1 : (k : Int) < m := by omega
      have hI := w64 (n * 5)
      have HI := Lib.hid hI; clear hI
      go_wp2_with fail
      go_roundg (m - (k + 1))
      case measure => omega
      case rel => exact ⟨k + 1, _, by omega, rfl, by go_num, rfl, by show I64 _; first | exact HI.out | (have := hn.out; exact ⟨by omega, by omega⟩), rfl⟩
    · have e : k = m := by omega
      subst e
      go_wp2_with fail
      go_ret
      exact ⟨n, rfl, hn.out, B1.out⟩

theorem specDigitsW_any (n : Int) (w : World) (hI : I64 n) : Calls Try.prog 162 #[.int .i64 n] w (RetW w) := by
  have hq : ∀ x : Int, I64 x → I64 (x.tdiv 10) ∧ (x.tdiv 10).natAbs = x.natAbs / 10 := fun x hx => by
    have h1 : (x.tdiv 10).natAbs = x.natAbs / 10 := by rw [Int.natAbs_tdiv]; rfl
    obtain ⟨h2, h3⟩ := hx
    refine ⟨⟨?_, ?_⟩, h1⟩ <;> omega
  have hi1 := hI.1; have hi2 := hI.2
  have HQ := Lib.hid (And.intro hq hI); clear hq hI
  go_enter Try.func162, Try.ntmps162
  go_wp2_with fail
  go_loopg [3, 4] ((n.tdiv 10).natAbs) (fun gk kk xx wr => ∃ (k x : Int), kk = .int .i64 k ∧ xx = .int .i64 x ∧ gk = x.natAbs ∧ Hid (I64 k) ∧ I64 x ∧ wr = w)
  case atStart => exact ⟨1, _, rfl, rfl, rfl, ⟨by omega, by omega⟩, (HQ.out.1 n HQ.out.2).1, rfl⟩
  case round =>
    obtain ⟨k, x, rfl, rfl, rfl, hk, hx, rfl⟩ := hrel
    obtain ⟨hx1, hx2⟩ := HQ.out.1 x hx
    have hi1 := hx.1; have hi2 := hx.2
    by_cases h0 : x = 0
    · have hb : (x != 0) = false := by simp [h0]
      have HZ := Lib.hid (And.intro hx1 hx2); clear hx1 hx2 hx h0
      go_wp2_with fail
      go_ret
      exact ⟨k, rfl, hk.out, bRf _⟩
    · have hb : (x != 0) = true := by simp [h0]
      have HZ := Lib.hid (And.intro hx1 (And.intro hx2 (And.intro h0 hx))); clear hx1 hx2 hx h0
      have HI := Lib.hid (w64 (k + 1))
      go_wp2_with fail
      go_roundg ((x.tdiv 10).natAbs)
      case measure => have := HZ.out.2.1; have := HZ.out.2.2.1; omega
      case rel => exact ⟨_, _, rfl, rfl, rfl, by show I64 _; first | exact HI.out | (have := hk.out; exact ⟨by omega, by omega⟩), HZ.out.1, rfl⟩
end Go.Proofs.Ytblcmajhdndmfaa
