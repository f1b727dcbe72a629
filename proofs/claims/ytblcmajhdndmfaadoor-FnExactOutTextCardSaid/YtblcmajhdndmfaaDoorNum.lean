/- Contracts: numbers as text. -/
import Derived.Test.YtblcmajhdndmfaaDoorLaw3
import Derived.Test.YtblcmajhdndmfaaDoorBytes
import Derived.Test.YtblcmajhdndmfaaDoorApp
import Derived.Test.YtblcmajhdndmfaaDoorMark
import Derived.Test.YtblcmajhdndmfaaDoorShelfD
import Derived.Lib.AppendIntMem
namespace Go.Proofs.YtblcmajhdndmfaaDoor
open Go.RowKit Go.Sort
set_option linter.unusedVariables false
set_option maxRecDepth 100000

/-- The library's table of powers of ten stands. -/
def Tab (w : World) : Prop := Lib.TabIs Tryd.prog w "internal/strconv.uint64pow10" .u64 Lib.pow10Tab
theorem Tab.below {w w' : World} (h : Tab w) (hb : Below w.heap.size w w') : Tab w' := Lib.tabBelow_of_tabIs h w' hb
theorem below_grow (w : World) (k : Nat) (os : Array Obj) : Below w.heap.size w (grow (w.drewN k) os) :=
  ⟨rfl, rfl, rfl, by simp [grow, World.drewN], fun b hb => by simp [grow, World.drewN, Array.getElem?_append_left hb]⟩

def numS (n : Int) : ByteArray := strOf (Lib.itoa n)
theorem decDigits_len : ∀ (k u : Nat), u < 10 ^ (k + 1) → (Lib.decDigits u).length ≤ k + 1
  | 0, u, h => by rw [Lib.decDigits, dif_pos (by simpa using h)]; simp
  | k + 1, u, h => by
    rw [Lib.decDigits]
    split
    · simp
    · have h2 : u / 10 < 10 ^ (k + 1) := by rw [Nat.pow_succ] at h; omega
      have := decDigits_len k (u / 10) h2
      simp; omega
theorem numS_size {n : Int} (h : I64 n) : (numS n).size ≤ 20 := by
  obtain ⟨h1, h2⟩ := h
  unfold numS
  rw [strOf_size]
  unfold Lib.itoa
  split
  · have := decDigits_len 18 n.natAbs (by omega)
    simp; omega
  · have := decDigits_len 18 n.toNat (by omega)
    omega

theorem strOf_append (a b : List UInt8) : strOf a ++ strOf b = strOf (a ++ b) := by
  apply ByteArray.ext
  simp [strOf]
theorem dig_eq (u : Nat) : byteOf (48 + (u : Int) % 10) = UInt8.ofNat (48 + u % 10) := by
  unfold byteOf
  congr 1
  omega
theorem dig_step {u0 u : Nat} {sl : List UInt8} (hu : 0 < u) (h : Lib.decDigits u ++ sl = Lib.decDigits u0) : (0 < u / 10 → Lib.decDigits (u / 10) ++ (byteOf (48 + (u : Int) % 10) :: sl) = Lib.decDigits u0) ∧ (u / 10 = 0 → byteOf (48 + (u : Int) % 10) :: sl = Lib.decDigits u0) := by
  rw [dig_eq]
  rw [Lib.decDigits] at h
  split at h
  · rename_i hlt
    refine ⟨fun h2 => by omega, fun _ => ?_⟩
    rw [← h, show u % 10 = u by omega]; rfl
  · rename_i hge
    refine ⟨fun _ => by rw [← h, List.append_assoc]; rfl, fun h2 => by omega⟩
theorem dig_len {u0 u : Nat} {sl : List UInt8} (h0 : u0 ≤ 9223372036854775808) (h : (0 < u → Lib.decDigits u ++ sl = Lib.decDigits u0) ∧ (u = 0 → sl = Lib.decDigits u0)) : sl.length ≤ 19 := by
  have h1 := decDigits_len 18 u0 (by omega)
  rcases Nat.eq_zero_or_pos u with e | e
  · rw [h.2 e]; omega
  · have := congrArg List.length (h.1 e)
    rw [List.length_append] at this; omega

theorem implNumText_any (n : Int) (w : World) (hI : I64 n) (ht : Tab w) : Calls Tryd.prog 23 #[.int .i64 n] w (Ret w (.string (numS n))) := by
  have hC := Tryd.strconv_Itoa n hI.1 hI.2 w ht
  have HC := Lib.hid hC; clear hC ht
  go_enter Tryd.func23, Tryd.ntmps23
  go_wp2_with fail
  refine HC.out.mono ?_
  rintro e w1 ⟨rfl, k, os, hw1⟩
  have hb : Below w.heap.size w w1 := by rw [hw1]; exact below_grow w k os
  have HB := Lib.hid hb; clear hb hw1
  go_wp2_with fail
  go_ret
  exact ⟨rfl, HB.out⟩


set_option maxHeartbeats 2000000 in
theorem specNumText_any (n : Int) (w : World) (hI : I64 n) : Calls Tryd.prog 18 #[.int .i64 n] w (Ret w (.string (numS n))) := by
  obtain ⟨r, hr⟩ : ∃ r, r = numS n := ⟨_, rfl⟩
  rw [← hr]
  have hi1 := hI.1; have hi2 := hI.2
  by_cases h0 : n = 0
  · subst h0
    have hr0 : r = strOf [48] := by rw [hr]; unfold numS Lib.itoa; rw [if_neg (by omega), Lib.decDigits, dif_pos (by simp)]; rfl
    have R := Lib.hid hr0; clear hr hr0
    go_enter Tryd.func18, Tryd.ntmps18
    go_wp2_with fail
    go_ret
    exact ⟨by rw [R.out]; rfl, bRf w⟩
  · have hn0 : (n == 0) = false := by rw [beq_eq_false_iff_ne]; exact h0
    have h0' : n ≠ 0 := h0
    by_cases hneg : n < 0
    · obtain ⟨u0, hu0, hu1⟩ : ∃ u : Nat, n = -(u : Int) ∧ 0 < u := ⟨n.natAbs, by omega, by omega⟩
      have hr0 : r = strOf (45 :: Lib.decDigits u0) := by rw [hr]; unfold numS Lib.itoa; rw [if_pos hneg]; congr 2; rw [show n.natAbs = u0 by omega]
      have R := Lib.hid hr0; clear hr hr0
      have hul : u0 ≤ 9223372036854775808 := by omega
      subst hu0
      go_enter Tryd.func18, Tryd.ntmps18
      go_wp2_with fail
      go_loopg [3, 4, 5] u0 (fun gk ss xx dd wr => ∃ (u : Nat) (sl : List UInt8), ss = .string (strOf sl) ∧ xx = .int .i64 (-(u : Int)) ∧ gk = u ∧ u ≤ u0 ∧ Hid ((0 < u → Lib.decDigits u ++ sl = Lib.decDigits u0) ∧ (u = 0 → sl = Lib.decDigits u0)) ∧ Below w.heap.size w wr)
      case atStart => exact ⟨u0, [], rfl, rfl, rfl, by omega, ⟨fun _ => by simp, fun h => by omega⟩, bRf w⟩
      case round =>
        obtain ⟨u, sl, rfl, rfl, hgk, hul0, hT, hbel⟩ := hrel
        subst hgk
        have hsl := dig_len hul hT.out
        have hz : (strOf sl).size ≤ 20 := by rw [strOf_size]; omega
        rcases Nat.eq_zero_or_pos gk with rfl | hpos
        · have he : sl = Lib.decDigits u0 := hT.out.2 rfl
          have HE := Lib.hid he; clear he
          have hz2 : ¬ (9223372036854775807 < 1 + (strOf sl).size) := by omega
          go_wp2_with fail
          go_ret
          exact ⟨by rw [R.out, ← HE.out]; rfl, hbel⟩
        · have hq : ((-(gk : Int)) != 0) = true := by simp; omega
          have ht1 : (-(gk : Int)).tmod 10 = -((gk : Int) % 10) := by rw [Int.neg_tmod, Int.tmod_eq_emod_of_nonneg (by omega)]
          have ht2 : (-(gk : Int)).tdiv 10 = -((gk : Int) / 10) := by rw [Int.neg_tdiv, Int.tdiv_eq_ediv_of_nonneg (by omega)]
          have hx10 : (-((gk : Int) / 10)) = (-((gk / 10 : Nat) : Int)) := by omega
          have HS := Lib.hid (dig_step hpos (hT.out.1 hpos))
          rcases Int.lt_or_le 0 ((gk : Int) % 10) with hm | hm
          · have hm' : ¬ ((gk : Int) % 10 ≤ 0) := by omega
            have hmm : (0 : Int) ≤ (gk : Int) % 10 := by omega
            have hs : SA (wr.alloc (.cells #[.int .u8 (48 + (gk : Int) % 10)] 5)) [byteOf (48 + (gk : Int) % 10)] (some ⟨wr.heap.size, 0, none⟩) 1 := by
              have := (OwnF.lit1 (RF.byte (base := wr.heap.size) (w := wr) (byteOf (48 + (gk : Int) % 10))) 5 (Nat.le_refl _)).sf.2.sa
              rw [byteOf_val, Int.emod_eq_of_lt (by omega) (by omega)] at this
              exact this
            have hcv := run_str_of_bytes (P := Tryd.prog) Tryd.underlying32 Tryd.underlying5 Tryd.underlying9 hs
            rw [List.length_singleton] at hcv
            have hsz : (strOf [byteOf (48 + (gk : Int) % 10)]).size = 1 := by simp [strOf_size]
            have hz2 : ¬ (9223372036854775807 < (strOf [byteOf (48 + (gk : Int) % 10)]).size + (strOf sl).size) := by omega
            have HB := Lib.hid (show Below w.heap.size w (wr.alloc (.cells #[.int .u8 (48 + (gk : Int) % 10)] 5)) from bAl hbel _)
            clear hs
            go_wp2_with fail
            go_roundg (gk / 10)
            case measure => omega
            case rel => exact ⟨gk / 10, byteOf (48 + (gk : Int) % 10) :: sl, by rw [strOf_append]; rfl, congrArg (Value.int .i64) hx10, rfl, by omega, HS.out, HB.out⟩
          · have hm0 : (gk : Int) % 10 = 0 := by omega
            have hs : SA (wr.alloc (.cells #[.int .u8 48] 5)) [byteOf 48] (some ⟨wr.heap.size, 0, none⟩) 1 := by
              have := (OwnF.lit1 (RF.byte (base := wr.heap.size) (w := wr) (byteOf 48)) 5 (Nat.le_refl _)).sf.2.sa
              rw [byteOf_val, Int.emod_eq_of_lt (by omega) (by omega)] at this
              exact this
            have hcv := run_str_of_bytes (P := Tryd.prog) Tryd.underlying32 Tryd.underlying5 Tryd.underlying9 hs
            rw [List.length_singleton] at hcv
            have hsz : (strOf [byteOf 48]).size = 1 := by simp [strOf_size]
            have hz2 : ¬ (9223372036854775807 < (strOf [byteOf 48]).size + (strOf sl).size) := by omega
            have HB := Lib.hid (show Below w.heap.size w (wr.alloc (.cells #[.int .u8 48] 5)) from bAl hbel _)
            have hS2 := HS.out
            rw [hm0, Int.add_zero] at hS2
            have HS2 := Lib.hid hS2
            clear hs hS2 hm
            go_wp2_with fail
            go_roundg (gk / 10)
            case measure => omega
            case rel => exact ⟨gk / 10, byteOf 48 :: sl, by rw [strOf_append]; rfl, congrArg (Value.int .i64) hx10, rfl, by omega, HS2.out, HB.out⟩
    · obtain ⟨u0, hu0, hu1⟩ : ∃ u : Nat, n = (u : Int) ∧ 0 < u := ⟨n.toNat, by omega, by omega⟩
      have hr0 : r = strOf (Lib.decDigits u0) := by rw [hr]; unfold numS Lib.itoa; rw [if_neg hneg]; congr 2; omega
      have R := Lib.hid hr0; clear hr hr0
      have hul : u0 ≤ 9223372036854775808 := by omega
      subst hu0
      have hneg2 : decide ((u0 : Int) < 0) = false := decide_eq_false hneg
      go_enter Tryd.func18, Tryd.ntmps18
      go_wp2_with fail
      go_loopg [3, 4, 5] u0 (fun gk ss xx dd wr => ∃ (u : Nat) (kc : Int) (sl : List UInt8), ss = .string (strOf sl) ∧ xx = .int .i64 kc ∧ Hid (kc = (u : Int)) ∧ 0 ≤ kc ∧ kc ≤ 9223372036854775807 ∧ gk = u ∧ u ≤ u0 ∧ Hid ((0 < u → Lib.decDigits u ++ sl = Lib.decDigits u0) ∧ (u = 0 → sl = Lib.decDigits u0)) ∧ Below w.heap.size w wr)
      case atStart => exact ⟨u0, u0, [], rfl, rfl, rfl, by omega, by omega, rfl, by omega, ⟨fun _ => by simp, fun h => by omega⟩, bRf w⟩
      case round =>
        obtain ⟨u, kc, sl, rfl, rfl, hkc, hk0, hk1, hgk, hul0, hT, hbel⟩ := hrel
        subst hgk
        have hsl := dig_len hul hT.out
        have hz : (strOf sl).size ≤ 20 := by rw [strOf_size]; omega
        rcases Nat.eq_zero_or_pos gk with rfl | hpos
        · have hk00 : kc = 0 := hkc.out
          subst hk00
          have he : sl = Lib.decDigits u0 := hT.out.2 rfl
          have HE := Lib.hid he; clear he
          have hz2 : ¬ (9223372036854775807 < 1 + (strOf sl).size) := by omega
          go_wp2_with fail
          go_ret
          exact ⟨by rw [R.out, ← HE.out]; rfl, hbel⟩
        · have hkk := hkc.out
          have hq : (kc != 0) = true := by simp; omega
          have hx10 : Hid (kc / 10 = ((gk / 10 : Nat) : Int)) := by show _ = _; omega
          have hx11 : (0 : Int) ≤ kc / 10 := by omega
          have hx12 : kc / 10 ≤ 9223372036854775807 := by omega
          have HS0 := dig_step hpos (hT.out.1 hpos)
          rw [← hkk] at HS0
          have HS := Lib.hid HS0; clear HS0 hkk
          rcases Int.lt_or_le 0 (kc % 10) with hm | hm
          · have hm' : ¬ (kc % 10 ≤ 0) := by omega
            have hmm : (0 : Int) ≤ kc % 10 := by omega
            have hs : SA (wr.alloc (.cells #[.int .u8 (48 + kc % 10)] 5)) [byteOf (48 + kc % 10)] (some ⟨wr.heap.size, 0, none⟩) 1 := by
              have := (OwnF.lit1 (RF.byte (base := wr.heap.size) (w := wr) (byteOf (48 + kc % 10))) 5 (Nat.le_refl _)).sf.2.sa
              rw [byteOf_val, Int.emod_eq_of_lt (by omega) (by omega)] at this
              exact this
            have hcv := run_str_of_bytes (P := Tryd.prog) Tryd.underlying32 Tryd.underlying5 Tryd.underlying9 hs
            rw [List.length_singleton] at hcv
            have hsz : (strOf [byteOf (48 + kc % 10)]).size = 1 := by simp [strOf_size]
            have hz2 : ¬ (9223372036854775807 < (strOf [byteOf (48 + kc % 10)]).size + (strOf sl).size) := by omega
            have HB := Lib.hid (show Below w.heap.size w (wr.alloc (.cells #[.int .u8 (48 + kc % 10)] 5)) from bAl hbel _)
            clear hs
            go_wp2_with fail
            go_roundg (gk / 10)
            case measure => omega
            case rel => exact ⟨gk / 10, kc / 10, byteOf (48 + kc % 10) :: sl, by rw [strOf_append]; rfl, rfl, hx10, hx11, hx12, rfl, by omega, HS.out, HB.out⟩
          · have hm0 : kc % 10 = 0 := by omega
            have hs : SA (wr.alloc (.cells #[.int .u8 48] 5)) [byteOf 48] (some ⟨wr.heap.size, 0, none⟩) 1 := by
              have := (OwnF.lit1 (RF.byte (base := wr.heap.size) (w := wr) (byteOf 48)) 5 (Nat.le_refl _)).sf.2.sa
              rw [byteOf_val, Int.emod_eq_of_lt (by omega) (by omega)] at this
              exact this
            have hcv := run_str_of_bytes (P := Tryd.prog) Tryd.underlying32 Tryd.underlying5 Tryd.underlying9 hs
            rw [List.length_singleton] at hcv
            have hsz : (strOf [byteOf 48]).size = 1 := by simp [strOf_size]
            have hz2 : ¬ (9223372036854775807 < (strOf [byteOf 48]).size + (strOf sl).size) := by omega
            have HB := Lib.hid (show Below w.heap.size w (wr.alloc (.cells #[.int .u8 48] 5)) from bAl hbel _)
            have hS2 := HS.out
            rw [hm0, Int.add_zero] at hS2
            have HS2 := Lib.hid hS2
            clear hs hS2 hm
            go_wp2_with fail
            go_roundg (gk / 10)
            case measure => omega
            case rel => exact ⟨gk / 10, kc / 10, byteOf 48 :: sl, by rw [strOf_append]; rfl, rfl, hx10, hx11, hx12, rfl, by omega, HS2.out, HB.out⟩
end Go.Proofs.YtblcmajhdndmfaaDoor
