/- Contracts: batches' results in short. -/
import Derived.Test.YtblcmajhdndmfaaDoorOutsD
import Derived.Test.YtblcmajhdndmfaaDoorCode
import Derived.Deep.RegionHeld3
namespace Go.Proofs.YtblcmajhdndmfaaDoor
open Go.RowKit
set_option linter.unusedVariables false
set_option maxRecDepth 100000

def sp : ByteArray := ⟨#[32]⟩
def co : ByteArray := ⟨#[58]⟩
theorem sp_size : sp.size = 1 := rfl
theorem co_size : co.size = 1 := rfl
def sumHead (l : List GOut) : ByteArray := numS l.length ++ sp ++ numS (goodOfL l : Nat) ++ sp ++ numS (bytesOfL l : Nat) ++ sp ++ numS (lossSumL l : Nat)
def sumPart (i : Nat) (o : GOut) : ByteArray := if o.code = 0 then .empty else sp ++ numS i ++ co ++ codeS o.code
def sumTo (l : List GOut) : Nat → ByteArray
  | 0 => sumHead l
  | k + 1 => sumTo l k ++ (match l[k]? with | some o => sumPart k o | none => .empty)
theorem sumTo_succ (l : List GOut) {k : Nat} (h : k < l.length) : sumTo l (k + 1) = sumTo l k ++ sumPart k l[k] := by
  rw [sumTo, List.getElem?_eq_getElem h]
theorem natI {n : Nat} (h : n ≤ 4194304) : I64 (n : Int) := ⟨by omega, by omega⟩
theorem sumHead_size {l : List GOut} (hn : bulkOutS l ≤ 1048576) : (sumHead l).size ≤ 83 := by
  have h0 : l.length ≤ 1048576 := by unfold bulkOutS at hn; omega
  have h1 := numS_size (natI (n := l.length) (by omega))
  have h2 := numS_size (natI (n := goodOfL l) (by have := goodOfL_le l; omega))
  have h3 := numS_size (natI (n := bytesOfL l) (by have := bytesOfL_le l; omega))
  have h4 := numS_size (natI (n := lossSumL l) (by have := lossSumL_le l; omega))
  unfold sumHead
  simp only [ByteArray.size_append, sp_size]
  omega
theorem sumPart_size (k : Nat) (o : GOut) (hk : k ≤ 4194304) : (sumPart k o).size ≤ 30 := by
  unfold sumPart
  split
  · simp
  · have h1 := numS_size (natI (n := k) hk)
    have h2 := codeS_size o.code
    simp only [ByteArray.size_append, sp_size, co_size]
    omega
theorem sumTo_size {l : List GOut} (hn : bulkOutS l ≤ 1048576) : ∀ k, k ≤ l.length → (sumTo l k).size ≤ 83 + 30 * k
  | 0, _ => by rw [sumTo]; exact sumHead_size hn
  | k + 1, h => by
    have h0 : l.length ≤ 1048576 := by unfold bulkOutS at hn; omega
    have h1 := sumTo_size hn k (by omega)
    have h2 := sumPart_size k l[k] (by omega)
    rw [sumTo_succ l (by omega), ByteArray.size_append]; omega

set_option maxHeartbeats 1000000 in
theorem specSummary_any (l : List GOut) (A : Option Addr) (c : Nat) (w : World) (hn : bulkOutS l ≤ 1048576) (hl : SA w l A c) :
    Calls Tryd.prog 6 #[.slice A l.length c] w (Ret w (.string (sumTo l l.length))) := by
  have h0 : l.length ≤ 1048576 := by unfold bulkOutS at hn; omega
  have g1 := goodOfL_le l
  have g2 := bytesOfL_le l
  have g3 := lossSumL_le l
  obtain ⟨r, hr⟩ : ∃ r, r = sumTo l l.length := ⟨_, rfl⟩
  rw [← hr]
  obtain ⟨n1, hn1⟩ : ∃ n, n = numS l.length := ⟨_, rfl⟩
  obtain ⟨n2, hn2⟩ : ∃ n, n = numS (goodOfL l : Nat) := ⟨_, rfl⟩
  obtain ⟨n3, hn3⟩ : ∃ n, n = numS (bytesOfL l : Nat) := ⟨_, rfl⟩
  obtain ⟨n4, hn4⟩ : ∃ n, n = numS (lossSumL l : Nat) := ⟨_, rfl⟩
  have s1 : n1.size ≤ 20 := by rw [hn1]; exact numS_size (natI (by omega))
  have s2 : n2.size ≤ 20 := by rw [hn2]; exact numS_size (natI (by omega))
  have s3 : n3.size ≤ 20 := by rw [hn3]; exact numS_size (natI (by omega))
  have s4 : n4.size ≤ 20 := by rw [hn4]; exact numS_size (natI (by omega))
  have hh : sumHead l = n1 ++ sp ++ n2 ++ sp ++ n3 ++ sp ++ n4 := by rw [hn1, hn2, hn3, hn4]; rfl
  have z1 : ¬ (9223372036854775807 < n1.size + 1) := by omega
  have z2 : ¬ (9223372036854775807 < n1.size + 1 + n2.size) := by omega
  have z3 : ¬ (9223372036854775807 < n1.size + 1 + n2.size + 1) := by omega
  have z4 : ¬ (9223372036854775807 < n1.size + 1 + n2.size + 1 + n3.size) := by omega
  have z5 : ¬ (9223372036854775807 < n1.size + 1 + n2.size + 1 + n3.size + 1) := by omega
  have z6 : ¬ (9223372036854775807 < n1.size + 1 + n2.size + 1 + n3.size + 1 + n4.size) := by omega
  have HH := Lib.hid (And.intro hr (And.intro hh (And.intro hn1 (And.intro hn2 (And.intro hn3 hn4))))); clear hr hh hn1 hn2 hn3 hn4
  have E := Lib.hid hl; clear hl
  go_enter Tryd.func6, Tryd.ntmps6
  go_wp2_with fail
  refine (specNumText_any _ _ (natI (by omega))).mono ?_
  rintro e w1 ⟨rfl, hb1⟩
  rw [← HH.out.2.2.1]
  have B1 := Lib.hid hb1; clear hb1
  go_wp2_with fail
  refine (specGoodOf_any l A c _ hn (E.out.below B1.out)).mono ?_
  rintro e w2 ⟨rfl, hb2⟩
  have B2 := Lib.hid (bTr B1.out hb2); clear hb2
  go_wp2_with fail
  refine (specNumText_any _ _ (natI (by omega))).mono ?_
  rintro e w3 ⟨rfl, hb3⟩
  rw [← HH.out.2.2.2.1]
  have B3 := Lib.hid (bTr B2.out hb3); clear hb3
  go_wp2_with fail
  refine (specBytesOf_any l A c _ hn (E.out.below B3.out)).mono ?_
  rintro e w4 ⟨rfl, hb4⟩
  have B4 := Lib.hid (bTr B3.out hb4); clear hb4
  go_wp2_with fail
  refine (specNumText_any _ _ (natI (by omega))).mono ?_
  rintro e w5 ⟨rfl, hb5⟩
  rw [← HH.out.2.2.2.2.1]
  have B5 := Lib.hid (bTr B4.out hb5); clear hb5
  go_wp2_with fail
  refine (specLossSum_any l A c _ hn (E.out.below B5.out)).mono ?_
  rintro e w6 ⟨rfl, hb6⟩
  have B6 := Lib.hid (bTr B5.out hb6); clear hb6
  go_wp2_with fail
  refine (specNumText_any _ _ (natI (by omega))).mono ?_
  rintro e w7 ⟨rfl, hb7⟩
  rw [← HH.out.2.2.2.2.2]
  have B7 := Lib.hid (bTr B6.out hb7); clear hb7
  go_wp2_with fail
  go_loopg [3, 4] l.length (fun gk ss i wr => ∃ (k : Nat) (s : ByteArray), k ≤ l.length ∧ ss = .string s ∧ i = .int .i64 k ∧ gk = l.length - k ∧ Hid (s = sumTo l k) ∧ Below w.heap.size w wr)
  case atStart => exact ⟨0, _, by omega, rfl, rfl, by omega, by show _ = sumHead l; rw [HH.out.2.1]; rfl, B7.out⟩
  case round =>
    obtain ⟨k, s, hk, rfl, rfl, rfl, hS, hbel⟩ := hrel
    by_cases hlt : k < l.length
    · obtain ⟨b, off, A1, c1, A2, c2, rfl, hb, hI, hs1, hs2, k0, k1, k2⟩ := (E.out.below hbel).out_at hlt
      have hss : s.size ≤ 83 + 30 * k := by rw [hS.out]; exact sumTo_size hn k hk
      have hi1 : (k : Int) < l.length := by omega
      have hi2 : (0 : Int) ≤ k := by omega
      obtain ⟨m, hm⟩ : ∃ m, m = numS k := ⟨_, rfl⟩
      obtain ⟨q, hq⟩ : ∃ q, q = codeS l[k].code := ⟨_, rfl⟩
      have sm : m.size ≤ 20 := by rw [hm]; exact numS_size (natI (by omega))
      have sq : q.size ≤ 5 := by rw [hq]; exact codeS_size _
      have y1 : ¬ (9223372036854775807 < s.size + 1) := by omega
      have y2 : ¬ (9223372036854775807 < s.size + 1 + m.size) := by omega
      have y3 : ¬ (9223372036854775807 < s.size + 1 + m.size + 1) := by omega
      have y4 : ¬ (9223372036854775807 < s.size + 1 + m.size + 1 + q.size) := by omega
      have HM := Lib.hid (And.intro hm hq); clear hm hq hs1 hs2 hI
      by_cases hc : l[k].code = 0
      · have hcd : (l[k].code != 0) = false := by simp [hc]
        have hp : sumTo l (k + 1) = s := by rw [sumTo_succ l hlt, ← hS.out]; unfold sumPart; rw [if_pos hc]; simp
        have HP := Lib.hid hp; clear hp hc
        go_wp2_with fail
        go_roundg (l.length - (k + 1))
        case measure => omega
        case rel => exact ⟨k + 1, s, by omega, rfl, by go_num, rfl, HP.out.symm, hbel⟩
      · have hcd : (l[k].code != 0) = true := by simp [hc]
        have hp : sumTo l (k + 1) = s ++ sp ++ m ++ co ++ q := by rw [sumTo_succ l hlt, ← hS.out]; unfold sumPart; rw [if_neg hc, HM.out.1, HM.out.2]; simp only [ByteArray.append_assoc]
        have HP := Lib.hid hp; clear hp hc
        go_wp2_with fail
        go_region_held3 (fun u => u.cell? ⟨b, off + k * 3 + 1 + 1, none⟩ = some (.int .i64 l[k].code)) (go_keep)
          (first
            | (go_at_call 18; (refine (specNumText_any _ _ (natI (by omega))).mono ?_; rintro e w8 ⟨rfl, hb8⟩; rw [← HM.out.1]; have HB8 := Lib.hid (show Below wr.heap.size wr w8 from by first | exact bTr (bRf wr).drew hb8 | exact bTr HB9.out hb8); have k3 := (HB8.out.cell (p := ⟨b, off + k * 3 + 1 + 1, none⟩) hb).trans k2; clear hb8))
            | (go_at_call 22; (refine (specCodeName_any _ _).mono ?_; rintro e w9 ⟨rfl, hb9⟩; rw [← HM.out.2]; have HB9 := Lib.hid (show Below wr.heap.size wr w9 from by first | exact bTr (bRf wr).drew hb9 | exact bTr HB8.out hb9); have k4 := (HB9.out.cell (p := ⟨b, off + k * 3 + 1 + 1, none⟩) hb).trans k2; clear hb9)))
        all_goals
          go_wp2_with fail
          go_roundg (l.length - (k + 1))
          case measure => omega
          case rel => exact ⟨k + 1, _, by omega, rfl, by go_num, rfl, HP.out.symm, by first | exact bTr hbel HB9.out | exact bTr hbel HB8.out⟩
    · have e : k = l.length := by omega
      go_wp2_with fail
      go_ret
      exact ⟨by rw [HH.out.1, ← e, ← hS.out]; rfl, hbel⟩
end Go.Proofs.YtblcmajhdndmfaaDoor
