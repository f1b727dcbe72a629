/- Part of a proof: contracts and plain laws. -/
import Derived.Test.YtlfblkekbcfjpaaGreatDoorZ26
set_option linter.unusedVariables false
set_option linter.unusedSimpArgs false
namespace Go.Proofs.YtlfblkekbcfjpaaGreatDoor
open Go
set_option maxRecDepth 100000
set_option maxHeartbeats 2000000
theorem sGetMark {b : List UInt8} {at_ : Int} (hb : b.length ≤ 1099511627776) : Fn Tryz.prog 71 [Y b, I at_] [.un, .un] [.ag [I (getMarkP b at_).1.1, I (getMarkP b at_).1.2], I (getMarkP b at_).2.1, I (getMarkP b at_).2.2] := by
 by_cases hat : 0 ≤ at_ ∧ at_ < b.length
 ·obtain ⟨a, rfl⟩ : ∃ a : Nat, at_ = a := ⟨at_.toNat, by omega⟩
  have ha : a < b.length := by omega
  have ha0 : ¬ ((a : Int) < 0) := by omega
  have ha1 : ¬ (b.length ≤ a) := by omega
  obtain ⟨z, hz⟩ : ∃ z, b[a]? = some z := ⟨_, List.getElem?_eq_getElem ha⟩
  have hz2 : b[a] = z := by rw [List.getElem?_eq_getElem ha] at hz; exact Option.some.inj hz
  have e1 : wrK .i64 ((a : Int) + 1) = a + 1 := wrap64_id _ (by omega)
  rw [getMarkP_at hz]
  obtain ⟨x, hx⟩ : ∃ x : Int, (z.toNat : Int) = x := ⟨_, rfl⟩
  have hxb : 0 ≤ x ∧ x < 256 := by have := z.toNat_lt; omega
  have hwx : wrK .i64 x = x := wrap64_id _ (by omega)
  rw [hx]
  generalize hr : markAt b a x = r
  unfold markAt at hr
  cases hs : shortP x with
  | some m =>
   rw [hs] at hr
   simp only at hr
   subst hr
   refine Fn_of Tryz.func71 rfl rfl (by simp -implicitDefEqProofs -dsimp) rfl ?_; simp only [Tryz.f71]
   simp -implicitDefEqProofs -dsimp [ha0, ha1, ha, hz2, hx, hwx]
   repeat' (first | with_reducible intro _ | with_reducible apply And.intro | (refine chkOk ?_; kernel_rfl) | (refine wpcall_d (s15Byte hxb) ?_; simp -implicitDefEqProofs -dsimp [ha, hz2, hx, hwx, hs, optF, e1]))
  | none =>
   rw [hs] at hr
   simp only at hr
   obtain ⟨f, w, hf, hc⟩ := formP_cases x
   rw [hf] at hr
   simp only at hr
   rcases hc with ⟨hf0, hn⟩ | ⟨hf3, hw, hn⟩ | ⟨hn, hw, hc⟩
   ·obtain ⟨hw0, hn⟩ := hn
    subst hf0 hw0
    rw [if_pos (.inl rfl)] at hr; subst hr
    refine Fn_of Tryz.func71 rfl rfl (by simp -implicitDefEqProofs -dsimp) rfl ?_; simp only [Tryz.f71]
    simp -implicitDefEqProofs -dsimp [ha0, ha1, ha, hz2, hx, hwx]
    repeat' (first | with_reducible intro _ | with_reducible apply And.intro | (refine chkOk ?_; kernel_rfl) | (refine wpcall_d (s15Byte hxb) ?_; simp -implicitDefEqProofs -dsimp [ha, hz2, hx, hwx, hs, optF, e1, hf]) | (refine wpcall_d (s15Kind hxb) ?_; simp -implicitDefEqProofs -dsimp [ha, hz2, hx, hwx, hs, optF, e1, hf]))
   all_goals
    have hw2 := isW_iff.1 hw
    obtain ⟨w, rfl⟩ : ∃ n : Nat, w = n := ⟨w.toNat, by omega⟩
    have hw0 : ¬ w = 0 := by omega
    have hW := s15Wide (b := b) (a := a + 1) (w := w) hb (by omega) hw
    rw [show (((a + 1 : Nat)) : Int) = a + 1 by omega] at hW
    have e2 : existP b (a + 1) w = true → wrK .i64 ((a : Int) + 1 + w) = a + 1 + w := fun h => by have := existP_iff.1 h; exact wrap64_id _ (by omega)
    have hWd : wideN b (a + 1) w = if existP b (a + 1) w = true then (if bigP ((b.drop (a + 1)).take w) ≤ 1000000000000000 then ((bigP ((b.drop (a + 1)).take w) : Int), 0) else (0, 2)) else (0, 1) := by
     unfold wideN; rw [show (((a + 1 : Nat)) : Int) = a + 1 by omega]
    simp only [Int.toNat_natCast] at hr
   ·subst hf3
    have hL := s15Below (b := b) (a := a + 1) (w := w) hb (by omega) hw
    rw [show (((a + 1 : Nat)) : Int) = a + 1 by omega] at hL
    have hLd : belowN b (a + 1) w = if existP b (a + 1) w = true then (if -1000000000000000 ≤ signedP w (bigP ((b.drop (a + 1)).take w)) ∧ signedP w (bigP ((b.drop (a + 1)).take w)) ≤ 1000000000000000 then (signedP w (bigP ((b.drop (a + 1)).take w)), 0) else (0, 2)) else (0, 1) := by
     unfold belowN; rw [show (((a + 1 : Nat)) : Int) = a + 1 by omega]
    generalize bigP ((b.drop (a + 1)).take w) = n at *
    generalize signedP w n = v at *
    generalize wideN b (a + 1) w = wn at *
    by_cases hE : existP b (a + 1) w = true
    ·rw [if_neg (by simp -implicitDefEqProofs -dsimp [hE]), if_pos rfl] at hr
     rw [if_pos hE] at hLd
     have e2 := e2 hE
     by_cases hv : -1000000000000000 ≤ v ∧ v ≤ 1000000000000000
     ·rw [if_pos hv] at hLd hr; subst hr
      refine Fn_of Tryz.func71 rfl rfl (by simp -implicitDefEqProofs -dsimp) rfl ?_; simp only [Tryz.f71]
      simp -implicitDefEqProofs -dsimp [ha0, ha1, ha, hz2, hx, hwx]
      repeat' (first | with_reducible intro _ | with_reducible apply And.intro | (refine chkOk ?_; kernel_rfl) | (refine wpcall_d (s15Byte hxb) ?_; simp -implicitDefEqProofs -dsimp [ha, hz2, hx, hwx, hs, optF, e1, e2, hf, hLd, hw0]) | (refine wpcall_d (s15Kind hxb) ?_; simp -implicitDefEqProofs -dsimp [ha, hz2, hx, hwx, hs, optF, e1, e2, hf, hLd, hw0]) | (refine wpcall_d (hW) ?_; simp -implicitDefEqProofs -dsimp [ha, hz2, hx, hwx, hs, optF, e1, e2, hf, hLd, hw0]) | (refine wpcall_d (hL) ?_; simp -implicitDefEqProofs -dsimp [ha, hz2, hx, hwx, hs, optF, e1, e2, hf, hLd, hw0]))
     ·rw [if_neg hv] at hLd hr; subst hr
      refine Fn_of Tryz.func71 rfl rfl (by simp -implicitDefEqProofs -dsimp) rfl ?_; simp only [Tryz.f71]
      simp -implicitDefEqProofs -dsimp [ha0, ha1, ha, hz2, hx, hwx]
      repeat' (first | with_reducible intro _ | with_reducible apply And.intro | (refine chkOk ?_; kernel_rfl) | (refine wpcall_d (s15Byte hxb) ?_; simp -implicitDefEqProofs -dsimp [ha, hz2, hx, hwx, hs, optF, e1, e2, hf, hLd, hw0]) | (refine wpcall_d (s15Kind hxb) ?_; simp -implicitDefEqProofs -dsimp [ha, hz2, hx, hwx, hs, optF, e1, e2, hf, hLd, hw0]) | (refine wpcall_d (hW) ?_; simp -implicitDefEqProofs -dsimp [ha, hz2, hx, hwx, hs, optF, e1, e2, hf, hLd, hw0]) | (refine wpcall_d (hL) ?_; simp -implicitDefEqProofs -dsimp [ha, hz2, hx, hwx, hs, optF, e1, e2, hf, hLd, hw0]))
    ·rw [if_pos (.inr (by simpa using hE))] at hr; subst hr
     rw [if_neg hE] at hLd
     refine Fn_of Tryz.func71 rfl rfl (by simp -implicitDefEqProofs -dsimp) rfl ?_; simp only [Tryz.f71]
     simp -implicitDefEqProofs -dsimp [ha0, ha1, ha, hz2, hx, hwx]
     repeat' (first | with_reducible intro _ | with_reducible apply And.intro | (refine chkOk ?_; kernel_rfl) | (refine wpcall_d (s15Byte hxb) ?_; simp -implicitDefEqProofs -dsimp [ha, hz2, hx, hwx, hs, optF, e1, hf, hLd, hw0]) | (refine wpcall_d (s15Kind hxb) ?_; simp -implicitDefEqProofs -dsimp [ha, hz2, hx, hwx, hs, optF, e1, hf, hLd, hw0]) | (refine wpcall_d (hW) ?_; simp -implicitDefEqProofs -dsimp [ha, hz2, hx, hwx, hs, optF, e1, hf, hLd, hw0]) | (refine wpcall_d (hL) ?_; simp -implicitDefEqProofs -dsimp [ha, hz2, hx, hwx, hs, optF, e1, hf, hLd, hw0]))
   ·have hf0 : ¬ f < 0 := by omega
    by_cases hE : existP b (a + 1) w = true
    ·have e2 := e2 hE
     have hE2 := existP_iff.1 hE
     have hll : ((b.drop (a + 1)).take w).length = w := by simp -implicitDefEqProofs -dsimp; omega
     rw [if_pos hE] at hWd
     rw [if_neg (by simp -implicitDefEqProofs -dsimp [hE]; omega), if_neg (by omega)] at hr
     rcases hc with hc | ⟨hc, hc2⟩ | ⟨hc, hc2⟩ | ⟨hc, hc2, hc3⟩
     ·subst hc
      rw [if_pos rfl] at hr
      generalize bigP ((b.drop (a + 1)).take w) = n at *
      by_cases hv : n ≤ 1000000000000000
      ·rw [if_pos hv] at hWd hr; subst hr
       refine Fn_of Tryz.func71 rfl rfl (by simp -implicitDefEqProofs -dsimp) rfl ?_; simp only [Tryz.f71]
       simp -implicitDefEqProofs -dsimp [ha0, ha1, ha, hz2, hx, hwx]
       repeat' (first | with_reducible intro _ | with_reducible apply And.intro | (refine chkOk ?_; kernel_rfl) | (refine wpcall_d (s15Byte hxb) ?_; simp -implicitDefEqProofs -dsimp [ha, hz2, hx, hwx, hs, optF, e1, e2, hf, hWd, hw0]) | (refine wpcall_d (s15Kind hxb) ?_; simp -implicitDefEqProofs -dsimp [ha, hz2, hx, hwx, hs, optF, e1, e2, hf, hWd, hw0]) | (refine wpcall_d (hW) ?_; simp -implicitDefEqProofs -dsimp [ha, hz2, hx, hwx, hs, optF, e1, e2, hf, hWd, hw0]))
      ·rw [if_neg hv] at hWd hr; subst hr
       refine Fn_of Tryz.func71 rfl rfl (by simp -implicitDefEqProofs -dsimp) rfl ?_; simp only [Tryz.f71]
       simp -implicitDefEqProofs -dsimp [ha0, ha1, ha, hz2, hx, hwx]
       repeat' (first | with_reducible intro _ | with_reducible apply And.intro | (refine chkOk ?_; kernel_rfl) | (refine wpcall_d (s15Byte hxb) ?_; simp -implicitDefEqProofs -dsimp [ha, hz2, hx, hwx, hs, optF, e1, e2, hf, hWd, hw0]) | (refine wpcall_d (s15Kind hxb) ?_; simp -implicitDefEqProofs -dsimp [ha, hz2, hx, hwx, hs, optF, e1, e2, hf, hWd, hw0]) | (refine wpcall_d (hW) ?_; simp -implicitDefEqProofs -dsimp [ha, hz2, hx, hwx, hs, optF, e1, e2, hf, hWd, hw0]))
     ·have hbl := bigP_le hll (by omega)
      subst hc
      obtain rfl : w = 2 := by omega
      have e2 : wrK .i64 ((a : Int) + 1 + 2) = a + 1 + 2 := e2
      rw [if_pos (by omega)] at hWd
      rw [if_neg (by omega), if_pos rfl] at hr
      generalize bigP ((b.drop (a + 1)).take 2) = n at *
      have e3 : wrK .i64 ((n : Int) - 256) = n - 256 := wrap64_id _ (by omega)
      by_cases hv : 256 ≤ n ∧ n ≤ 258
      ·have v1 : 256 ≤ (n : Int) := by omega
       have v2 : (n : Int) ≤ 258 := by omega
       rw [if_pos hv] at hr; subst hr
       refine Fn_of Tryz.func71 rfl rfl (by simp -implicitDefEqProofs -dsimp) rfl ?_; simp only [Tryz.f71]
       simp -implicitDefEqProofs -dsimp [ha0, ha1, ha, hz2, hx, hwx]
       repeat' (first | with_reducible intro _ | with_reducible apply And.intro | (refine chkOk ?_; kernel_rfl) | (refine wpcall_d (s15Byte hxb) ?_; simp -implicitDefEqProofs -dsimp [ha, hz2, hx, hwx, hs, optF, e1, e2, e3, hf, hWd, hw0, v1, v2]) | (refine wpcall_d (s15Kind hxb) ?_; simp -implicitDefEqProofs -dsimp [ha, hz2, hx, hwx, hs, optF, e1, e2, e3, hf, hWd, hw0, v1, v2]) | (refine wpcall_d (hW) ?_; simp -implicitDefEqProofs -dsimp [ha, hz2, hx, hwx, hs, optF, e1, e2, e3, hf, hWd, hw0, v1, v2]) | (refine wpcall_d (sIn) ?_; simp -implicitDefEqProofs -dsimp [ha, hz2, hx, hwx, hs, optF, e1, e2, e3, hf, hWd, hw0, v1, v2]))
      ·have hd : (decide (256 ≤ (n : Int)) && decide ((n : Int) ≤ 258)) = false := by rw [Bool.eq_false_iff]; simp -implicitDefEqProofs -dsimp; omega
       have hS := @sIn n 256 258
       rw [hd] at hS
       rw [if_neg hv] at hr; subst hr
       refine Fn_of Tryz.func71 rfl rfl (by simp -implicitDefEqProofs -dsimp) rfl ?_; simp only [Tryz.f71]
       simp -implicitDefEqProofs -dsimp [ha0, ha1, ha, hz2, hx, hwx]
       repeat' (first | with_reducible intro _ | with_reducible apply And.intro | (refine chkOk ?_; kernel_rfl) | (refine wpcall_d (s15Byte hxb) ?_; simp -implicitDefEqProofs -dsimp [ha, hz2, hx, hwx, hs, optF, e1, e2, e3, hf, hWd, hw0]) | (refine wpcall_d (s15Kind hxb) ?_; simp -implicitDefEqProofs -dsimp [ha, hz2, hx, hwx, hs, optF, e1, e2, e3, hf, hWd, hw0]) | (refine wpcall_d (hW) ?_; simp -implicitDefEqProofs -dsimp [ha, hz2, hx, hwx, hs, optF, e1, e2, e3, hf, hWd, hw0]) | (refine wpcall_d (hS) ?_; simp -implicitDefEqProofs -dsimp [ha, hz2, hx, hwx, hs, optF, e1, e2, e3, hf, hWd, hw0]))
     ·have hbl := bigP_le hll (by omega)
      subst hc
      obtain rfl : w = 4 := by omega
      have e2 : wrK .i64 ((a : Int) + 1 + 4) = a + 1 + 4 := e2
      rw [if_pos (by omega)] at hWd
      rw [if_neg (by omega), if_neg (by omega), if_pos rfl] at hr
      generalize bigP ((b.drop (a + 1)).take 4) = n at *
      cases hb2 : bitsFltP n with
      | some p =>
       rw [hb2] at hr; simp only at hr; subst hr
       refine Fn_of Tryz.func71 rfl rfl (by simp -implicitDefEqProofs -dsimp) rfl ?_; simp only [Tryz.f71]
       simp -implicitDefEqProofs -dsimp [ha0, ha1, ha, hz2, hx, hwx]
       repeat' (first | with_reducible intro _ | with_reducible apply And.intro | (refine chkOk ?_; kernel_rfl) | (refine wpcall_d (s15Byte hxb) ?_; simp -implicitDefEqProofs -dsimp [ha, hz2, hx, hwx, hs, optF, e1, e2, hf, hWd, hw0, hb2]) | (refine wpcall_d (s15Kind hxb) ?_; simp -implicitDefEqProofs -dsimp [ha, hz2, hx, hwx, hs, optF, e1, e2, hf, hWd, hw0, hb2]) | (refine wpcall_d (hW) ?_; simp -implicitDefEqProofs -dsimp [ha, hz2, hx, hwx, hs, optF, e1, e2, hf, hWd, hw0, hb2]) | (refine wpcall_d (sBitsFlt) ?_; simp -implicitDefEqProofs -dsimp [ha, hz2, hx, hwx, hs, optF, e1, e2, hf, hWd, hw0, hb2]) | (refine wpcall_d (sFltBits) ?_; simp -implicitDefEqProofs -dsimp [ha, hz2, hx, hwx, hs, optF, e1, e2, hf, hWd, hw0, hb2]))
      | none =>
       rw [hb2] at hr; simp only at hr; subst hr
       refine Fn_of Tryz.func71 rfl rfl (by simp -implicitDefEqProofs -dsimp) rfl ?_; simp only [Tryz.f71]
       simp -implicitDefEqProofs -dsimp [ha0, ha1, ha, hz2, hx, hwx]
       repeat' (first | with_reducible intro _ | with_reducible apply And.intro | (refine chkOk ?_; kernel_rfl) | (refine wpcall_d (s15Byte hxb) ?_; simp -implicitDefEqProofs -dsimp [ha, hz2, hx, hwx, hs, optF, e1, e2, hf, hWd, hw0, hb2]) | (refine wpcall_d (s15Kind hxb) ?_; simp -implicitDefEqProofs -dsimp [ha, hz2, hx, hwx, hs, optF, e1, e2, hf, hWd, hw0, hb2]) | (refine wpcall_d (hW) ?_; simp -implicitDefEqProofs -dsimp [ha, hz2, hx, hwx, hs, optF, e1, e2, hf, hWd, hw0, hb2]) | (refine wpcall_d (sBitsFlt) ?_; simp -implicitDefEqProofs -dsimp [ha, hz2, hx, hwx, hs, optF, e1, e2, hf, hWd, hw0, hb2]) | (refine wpcall_d (sFltBits) ?_; simp -implicitDefEqProofs -dsimp [ha, hz2, hx, hwx, hs, optF, e1, e2, hf, hWd, hw0, hb2]))
     ·have hbl := bigP_le hll (by omega)
      have f3 : f ≠ 3 := by omega
      have f4 : f ≠ 4 := by omega
      have f5 : f ≠ 5 := by omega
      rw [if_pos (by omega)] at hWd
      rw [if_neg f3, if_neg f5, if_neg f4] at hr
      generalize bigP ((b.drop (a + 1)).take w) = n at *
      by_cases hv : n ≤ 65535
      ·have hv' : ¬ (65535 < (n : Int)) := by omega
       rw [if_pos hv] at hr; subst hr
       refine Fn_of Tryz.func71 rfl rfl (by simp -implicitDefEqProofs -dsimp) rfl ?_; simp only [Tryz.f71]
       simp -implicitDefEqProofs -dsimp [ha0, ha1, ha, hz2, hx, hwx]
       repeat' (first | with_reducible intro _ | with_reducible apply And.intro | (refine chkOk ?_; kernel_rfl) | (refine wpcall_d (s15Byte hxb) ?_; simp -implicitDefEqProofs -dsimp [ha, hz2, hx, hwx, hs, optF, e1, e2, hf, hWd, hw0, hf0, f3, f4, f5, hc, hv']) | (refine wpcall_d (s15Kind hxb) ?_; simp -implicitDefEqProofs -dsimp [ha, hz2, hx, hwx, hs, optF, e1, e2, hf, hWd, hw0, hf0, f3, f4, f5, hc, hv']) | (refine wpcall_d (hW) ?_; simp -implicitDefEqProofs -dsimp [ha, hz2, hx, hwx, hs, optF, e1, e2, hf, hWd, hw0, hf0, f3, f4, f5, hc, hv']))
      ·have hv' : 65535 < (n : Int) := by omega
       rw [if_neg hv] at hr; subst hr
       refine Fn_of Tryz.func71 rfl rfl (by simp -implicitDefEqProofs -dsimp) rfl ?_; simp only [Tryz.f71]
       simp -implicitDefEqProofs -dsimp [ha0, ha1, ha, hz2, hx, hwx]
       repeat' (first | with_reducible intro _ | with_reducible apply And.intro | (refine chkOk ?_; kernel_rfl) | (refine wpcall_d (s15Byte hxb) ?_; simp -implicitDefEqProofs -dsimp [ha, hz2, hx, hwx, hs, optF, e1, e2, hf, hWd, hw0, hf0, f3, f4, f5, hc, hv']) | (refine wpcall_d (s15Kind hxb) ?_; simp -implicitDefEqProofs -dsimp [ha, hz2, hx, hwx, hs, optF, e1, e2, hf, hWd, hw0, hf0, f3, f4, f5, hc, hv']) | (refine wpcall_d (hW) ?_; simp -implicitDefEqProofs -dsimp [ha, hz2, hx, hwx, hs, optF, e1, e2, hf, hWd, hw0, hf0, f3, f4, f5, hc, hv']))
    ·rw [if_pos (.inr (by simpa using hE))] at hr; subst hr
     rw [if_neg hE] at hWd
     refine Fn_of Tryz.func71 rfl rfl (by simp -implicitDefEqProofs -dsimp) rfl ?_; simp only [Tryz.f71]
     simp -implicitDefEqProofs -dsimp [ha0, ha1, ha, hz2, hx, hwx]
     repeat' (first | with_reducible intro _ | with_reducible apply And.intro | (refine chkOk ?_; kernel_rfl) | (refine wpcall_d (s15Byte hxb) ?_; simp -implicitDefEqProofs -dsimp [ha, hz2, hx, hwx, hs, optF, e1, hf, hWd, hw0, hf0]) | (refine wpcall_d (s15Kind hxb) ?_; simp -implicitDefEqProofs -dsimp [ha, hz2, hx, hwx, hs, optF, e1, hf, hWd, hw0, hf0]) | (refine wpcall_d (hW) ?_; simp -implicitDefEqProofs -dsimp [ha, hz2, hx, hwx, hs, optF, e1, hf, hWd, hw0, hf0]))
 ·rw [getMarkP_no hat]
  refine Fn_of Tryz.func71 rfl rfl (by simp -implicitDefEqProofs -dsimp) rfl ?_; simp only [Tryz.f71]
  simp -implicitDefEqProofs -dsimp
  repeat' (first | with_reducible intro _ | with_reducible apply And.intro | (refine chkOk ?_; kernel_rfl))
  all_goals omega
end Go.Proofs.YtlfblkekbcfjpaaGreatDoor
namespace Go.Proofs.YtlfblkekbcfjpaaGreatDoor
open Go
set_option maxRecDepth 100000
set_option maxHeartbeats 2000000
theorem sTextOk {s : ByteArray} (hs : s.size ≤ 1099511627776) : Fn Tryz.prog 75 [S s] [.un] [B (textOkP s)] := by
 unfold textOkP
 obtain ⟨b, hb⟩ : ∃ b, s.data.toList = b := ⟨_, rfl⟩
 have hbl : b.length ≤ 1099511627776 := by rw [← hb]; simpa using hs
 rw [hb]
 refine Fn_of Tryz.func75 rfl rfl (by simp -implicitDefEqProofs -dsimp) rfl ?_; simp only [Tryz.f75]
 simp -implicitDefEqProofs -dsimp [hb, hs]
 refine WL_loop (fun a : Nat => [(3, Y b), (4, I a)]) (fun a => b.length - a) (fun a => a ≤ b.length ∧ Lib.validD b = Lib.validD (b.drop a)) 0 ⟨Nat.zero_le _, by simp⟩ ?_ ?_
 ·simp -implicitDefEqProofs -dsimp
 ·rintro a ⟨ha, hv⟩
  by_cases hlt : a < b.length
  ·have hl : 0 < (b.drop a).length := by simp -implicitDefEqProofs -dsimp; omega
   obtain ⟨h1, h2⟩ := validD_getP hl
   have hr : getRuneP b a = match getP (b.drop a) with | some p => (((p.1 : Int), (a : Int) + p.2), true) | none => ((0, 0), false) := by
    unfold getRuneP; rw [if_neg (by omega)]; rfl
   cases hg : getP (b.drop a) with
   | none =>
    rw [hg] at hr
    rw [hv, h1 hg]
    simp -implicitDefEqProofs -dsimp [-head_L, hlt]
    refine wpcall_d (sGetRune hbl) ?_; simp -implicitDefEqProofs -dsimp [hr]
   | some p =>
    rw [hg] at hr
    obtain ⟨h3, h4, h5⟩ := h2 p.1 p.2 hg
    simp -implicitDefEqProofs -dsimp [-head_L, -endOk, hlt]
    refine wpcall_d (sGetRune hbl) ?_; simp -implicitDefEqProofs -dsimp [-head_L, -endOk, hr]
    simp at h5
    exact ⟨a + p.2, ⟨by omega, by rw [hv, h3, List.drop_drop]⟩, by omega, by simp⟩
  ·have : b.drop a = [] := List.drop_of_length_le (by omega)
   rw [hv, this]
   simp -implicitDefEqProofs -dsimp [-head_L, hlt]
   unfold Lib.validD; rfl
theorem sSlice {b : List UInt8} {a n : Int} (hb : b.length ≤ 1099511627776) : Fn Tryz.prog 74 [Y b, I a, I n] [.un, .un, .un] [.row true 5 ((if existP b a n = true then (b.drop a.toNat).take n.toNat else []).map bv), B (existP b a n)] := by
 by_cases h : existP b a n = true
 ·have h2 := existP_iff.1 h
  rw [if_pos h, h]
  obtain ⟨l, hl⟩ : ∃ l, (b.drop a.toNat).take n.toNat = l := ⟨_, rfl⟩
  have hll : l.length ≤ b.length := by rw [← hl]; simp -implicitDefEqProofs -dsimp; omega
  have e1 : ¬ a < 0 := by omega
  have e2 : ¬ n < 0 := by omega
  have e3 : ¬ b.length < a := by omega
  have e4 : wrK .i64 ((b.length : Int) - a) = b.length - a := wrap64_id _ (by omega)
  have e5 : ¬ (b.length : Int) - a < n := by omega
  have e6 : wrK .i64 (a + n) = a + n := wrap64_id _ (by omega)
  have e7 : 0 ≤ a := by omega
  have e8 : a ≤ a + n := by omega
  have e9 : a + n ≤ b.length := by omega
  have hsl : List.drop a.toNat (List.take (a + n).toNat (List.map bv b)) = List.map bv l := by rw [← hl, List.drop_take, List.map_take, List.map_drop]; congr 1; omega
  rw [hl]
  refine Fn_of Tryz.func74 rfl rfl (by simp -implicitDefEqProofs -dsimp) rfl ?_; simp only [Tryz.f74]
  simp -implicitDefEqProofs -dsimp [e1, e2, e3, e4, e5, e6, e7, e8, e9, hsl]
  omega
 ·have h' : existP b a n = false := by simpa using h
  rw [if_neg h, h']
  rw [existP_iff] at h
  refine Fn_of Tryz.func74 rfl rfl (by simp -implicitDefEqProofs -dsimp) rfl ?_; simp only [Tryz.f74]
  simp -implicitDefEqProofs -dsimp
  intros
  rw [wrap64_id _ (by omega)]; omega
def manyP {α : Type} (rd : Int → Except Int (α × Int)) : Nat → Int → Except Int (List α × Int)
 | 0, e => .ok ([], e)
 | n + 1, e => match manyP rd n e with
  | .error c => .error c
  | .ok (xs, e) => match rd e with
   | .error c => .error c
   | .ok (x, e) => .ok (xs ++ [x], e)
theorem manyP_len {α : Type} {rd : Int → Except Int (α × Int)} : ∀ {n : Nat} {e e' : Int} {xs : List α}, manyP rd n e = .ok (xs, e') → xs.length = n
 | 0, _, _, _, h => by cases h; rfl
 | n + 1, e, e', xs, h => by
  unfold manyP at h
  cases h1 : manyP rd n e with
  | error c => rw [h1] at h; cases h
  | ok p =>
   obtain ⟨ys, e1⟩ := p
   rw [h1] at h; simp only at h
   cases h2 : rd e1 with
   | error c => rw [h2] at h; cases h
   | ok q => rw [h2] at h; cases h; simp -implicitDefEqProofs -dsimp [manyP_len h1]
theorem manyP_err {α : Type} {rd : Int → Except Int (α × Int)} {n : Nat} {e c : Int} (h : manyP rd n e = .error c) : ∀ k, manyP rd (n + k) e = .error c
 | 0 => h
 | k + 1 => by
  have := manyP_err h k
  show manyP rd ((n + k) + 1) e = _
  unfold manyP; rw [this]
def zeroG : GVal := ⟨0, 0, 0, .empty, []⟩
def packP (b : List UInt8) : Nat → Int → Except Int (GVal × Int)
 | 0, _ => .error 2
 | d + 1, at_ =>
  let m := getMarkP b at_
  if m.2.2 ≠ 0 then .error m.2.2
  else if m.1.1 = 4 then .ok (⟨4, (optF (bitsFltP m.1.2)).1.1, (optF (bitsFltP m.1.2)).1.2, .empty, []⟩, m.2.1)
  else if m.1.1 = 7 ∨ m.1.1 = 8 then
   (if existP b m.2.1 m.1.2 = true ∧ (m.1.1 = 7 → textOkP (Bs ((b.drop m.2.1.toNat).take m.1.2.toNat)) = true) then .ok (⟨m.1.1, 0, 0, Bs ((b.drop m.2.1.toNat).take m.1.2.toNat), []⟩, m.2.1 + m.1.2) else .error 1)
  else if m.1.1 = 9 ∨ m.1.1 = 10 then
   (match manyP (packP b d) ((if m.1.1 = 10 then 2 else 1) * m.1.2.toNat) m.2.1 with
   | .error c => .error c
   | .ok (xs, e) => .ok (⟨m.1.1, 0, 0, .empty, xs⟩, e))
  else .ok (⟨m.1.1, m.1.2, 0, .empty, []⟩, m.2.1)
def resE : Except Int (GVal × Int) → GVal × Int × Int
 | .ok (v, e) => (v, e, 0)
 | .error c => (zeroG, 0, c)
end Go.Proofs.YtlfblkekbcfjpaaGreatDoor
namespace Go.Proofs.YtlfblkekbcfjpaaGreatDoor
open Go
set_option maxRecDepth 100000
set_option maxHeartbeats 2000000
mutual
def cntG : GVal → Nat
 | ⟨_, _, _, _, l⟩ => 1 + cntL l
def cntL : List GVal → Nat
 | [] => 0
 | a :: l => cntG a + cntL l
end
theorem cntG_eq (v : GVal) : cntG v = 1 + cntL v.l := by cases v; simp only [cntG]
theorem cntL_app : ∀ (a b : List GVal), cntL (a ++ b) = cntL a + cntL b
 | [], b => by simp +zeta [cntL]
 | x :: a, b => by simp +zeta [cntL, cntL_app a b]; omega
theorem cntL_len : ∀ l : List GVal, l.length ≤ cntL l
 | [] => Nat.le_refl _
 | a :: l => by
  have := cntL_len l
  have h2 := cntG_eq a
  simp +zeta [cntL]; omega
theorem cntL_take {l : List GVal} {k : Nat} (h : k < l.length) : cntL (l.take (k + 1)) = cntL (l.take k) + cntG l[k] := by
 rw [List.take_succ_eq_append_getElem h, cntL_app]; simp +zeta [cntL]
theorem cntL_part (l : List GVal) (k : Nat) : cntL (l.take k) ≤ cntL l := by
 conv => rhs; rw [← List.take_append_drop k l]
 rw [cntL_app]; omega
theorem cntG_get {l : List GVal} {k : Nat} (h : k < l.length) : cntG l[k] ≤ cntL l := by
 have := cntL_part l (k + 1)
 rw [cntL_take h] at this; omega
theorem sCountOf : ∀ v : GVal, cntG v ≤ 1099511627776 → Fn Tryz.prog 23 [vV v] [.un] [I (cntG v)] := by
 intro v
 induction v using GVal.ind with
 | h v ih =>
  intro hv
  rw [cntG_eq] at hv ⊢
  have hlen := cntL_len v.l
  simp only [vV_eq]
  refine Fn_of Tryz.func23 rfl rfl (by simp -implicitDefEqProofs -dsimp) rfl ?_; simp only [Tryz.f23]
  simp -implicitDefEqProofs -dsimp
  refine WL_loop (fun k : Nat => [(1, .blk [I v.kind, I v.n, I v.x, S v.s, .sl (v.l.map vV)]), (2, I 0), (3, I ((1 + cntL (v.l.take k) : Nat) : Int)), (4, I k)]) (fun k => v.l.length - k) (fun k => k ≤ v.l.length) 0 (Nat.zero_le _) ?_ ?_
  ·simp -implicitDefEqProofs -dsimp [cntL]
  ·intro k hk
   by_cases hk2 : k < v.l.length
   ·have hih := ih k hk2 (by have := cntG_get hk2; omega)
    have ht := cntL_take hk2
    have hp := cntL_part v.l (k + 1)
    have k1 : (k : Int) < v.l.length := by omega
    have k2 : wrK .i64 ((k : Int) + 1) = k + 1 := wrap64_id _ (by omega)
    have k3 : wrK .i64 (1 + (cntL (v.l.take k) : Int) + cntG v.l[k]) = 1 + cntL (v.l.take (k + 1)) := by rw [wrap64_id _ (by omega)]; omega
    simp only [vV_eq] at hih
    obtain ⟨x, hx2⟩ : ∃ x, v.l[k] = x := ⟨_, rfl⟩
    rw [hx2] at hih k3
    simp -implicitDefEqProofs -dsimp [-head_L, -endOk, k1, hk2, hx2]
    refine wpcall_d hih ?_; simp -implicitDefEqProofs -dsimp [-head_L, -endOk, k2, k3]
    refine ⟨k + 1, by omega, by omega, ?_⟩
    simp -implicitDefEqProofs -dsimp
   ·obtain rfl : k = v.l.length := by omega
    simp -implicitDefEqProofs -dsimp [-head_L]
theorem iCountOf : ∀ v : GVal, cntG v ≤ 1099511627776 → Fn Tryz.prog 27 [vV v] [.un] [I (cntG v)] := by
 intro v
 induction v using GVal.ind with
 | h v ih =>
  intro hv
  rw [cntG_eq] at hv ⊢
  have hlen := cntL_len v.l
  simp only [vV_eq]
  refine Fn_of Tryz.func27 rfl rfl (by simp -implicitDefEqProofs -dsimp) rfl ?_; simp only [Tryz.f27]
  simp -implicitDefEqProofs -dsimp
  refine WL_loop (fun k : Nat => [(2, I 0), (3, I ((1 + cntL (v.l.take k) : Nat) : Int)), (7, .sl (v.l.map vV)), (8, I v.l.length), (9, I k)]) (fun k => v.l.length - k) (fun k => k ≤ v.l.length) 0 (Nat.zero_le _) ?_ ?_
  ·simp -implicitDefEqProofs -dsimp [cntL]
  ·intro k hk
   by_cases hk2 : k < v.l.length
   ·have hih := ih k hk2 (by have := cntG_get hk2; omega)
    have ht := cntL_take hk2
    have hp := cntL_part v.l (k + 1)
    have k1 : (k : Int) < v.l.length := by omega
    have k2 : wrK .i64 ((k : Int) + 1) = k + 1 := wrap64_id _ (by omega)
    have k3 : wrK .i64 (1 + (cntL (v.l.take k) : Int) + cntG v.l[k]) = 1 + cntL (v.l.take (k + 1)) := by rw [wrap64_id _ (by omega)]; omega
    simp only [vV_eq] at hih
    obtain ⟨x, hx2⟩ : ∃ x, v.l[k] = x := ⟨_, rfl⟩
    rw [hx2] at hih k3
    simp -implicitDefEqProofs -dsimp [-head_L, -endOk, k1, hk2, hx2]
    refine wpcall_d hih ?_; simp -implicitDefEqProofs -dsimp [-head_L, -endOk, k2, k3]
    refine ⟨k + 1, by omega, by omega, ?_⟩
    simp -implicitDefEqProofs -dsimp
   ·obtain rfl : k = v.l.length := by omega
    simp -implicitDefEqProofs -dsimp [-head_L]
theorem sameL_take {a b : List GVal} (h : a.length = b.length) {k : Nat} (hk : k < a.length) (ht : a.take k = b.take k) : (a.take (k + 1) = b.take (k + 1)) ↔ a[k] = b[k]'(by omega) := by
 have e1 := List.take_succ_eq_append_getElem hk
 have e2 := List.take_succ_eq_append_getElem (show k < b.length by omega)
 rw [e1, e2, ht, List.append_cancel_left_eq]
 simp +zeta
theorem sSameVal : ∀ a : GVal, cntG a ≤ 1099511627776 → ∀ b : GVal, cntG b ≤ 1099511627776 → Fn Tryz.prog 78 [vV a, vV b] [.un, .un] [B (decide (a = b))] := by
 intro a
 induction a using GVal.ind with
 | h a ih =>
  intro ha b hb
  rw [cntG_eq] at ha hb
  have hla := cntL_len a.l
  have hlb := cntL_len b.l
  simp only [vV_eq]
  generalize hR : decide (a = b) = R
  have hno : ∀ {p : Prop}, (a = b → p) → ¬ p → R = false := fun h hp => by rw [← hR]; exact decide_eq_false fun e => hp (h e)
  by_cases h1 : a.kind = b.kind
  case neg =>
   obtain rfl := hno (fun e => by rw [e]) h1
   refine Fn_of Tryz.func78 rfl rfl (by simp -implicitDefEqProofs -dsimp) rfl ?_; simp only [Tryz.f78]
   simp -implicitDefEqProofs -dsimp [h1]; repeat' (first | with_reducible intro _ | with_reducible apply And.intro | (refine chkOk ?_; kernel_rfl))
  by_cases h2 : a.n = b.n
  case neg =>
   obtain rfl := hno (fun e => by rw [e]) h2
   refine Fn_of Tryz.func78 rfl rfl (by simp -implicitDefEqProofs -dsimp) rfl ?_; simp only [Tryz.f78]
   simp -implicitDefEqProofs -dsimp [h1, h2]; repeat' (first | with_reducible intro _ | with_reducible apply And.intro | (refine chkOk ?_; kernel_rfl))
  by_cases h3 : a.x = b.x
  case neg =>
   obtain rfl := hno (fun e => by rw [e]) h3
   refine Fn_of Tryz.func78 rfl rfl (by simp -implicitDefEqProofs -dsimp) rfl ?_; simp only [Tryz.f78]
   simp -implicitDefEqProofs -dsimp [h1, h2, h3]; repeat' (first | with_reducible intro _ | with_reducible apply And.intro | (refine chkOk ?_; kernel_rfl))
  by_cases h4 : a.s = b.s
  case neg =>
   obtain rfl := hno (fun e => by rw [e]) h4
   refine Fn_of Tryz.func78 rfl rfl (by simp -implicitDefEqProofs -dsimp) rfl ?_; simp only [Tryz.f78]
   simp -implicitDefEqProofs -dsimp [h1, h2, h3, h4]; repeat' (first | with_reducible intro _ | with_reducible apply And.intro | (refine chkOk ?_; kernel_rfl))
  by_cases h5 : a.l.length = b.l.length
  case neg =>
   obtain rfl := hno (fun e => by rw [e]) h5
   have h6 : ¬ (a.l.length : Int) = b.l.length := by omega
   refine Fn_of Tryz.func78 rfl rfl (by simp -implicitDefEqProofs -dsimp) rfl ?_; simp only [Tryz.f78]
   simp -implicitDefEqProofs -dsimp [h1, h2, h3, h4, h6, h5]; repeat' (first | with_reducible intro _ | with_reducible apply And.intro | (refine chkOk ?_; kernel_rfl))
  have hyes : a.l = b.l → R = true := fun h => by rw [← hR]; exact decide_eq_true (gval_eq h1 h2 h3 h4 h)
  clear hR
  have h6 : (a.l.length : Int) = b.l.length := by omega
  refine Fn_of Tryz.func78 rfl rfl (by simp -implicitDefEqProofs -dsimp) rfl ?_; simp only [Tryz.f78]
  simp -implicitDefEqProofs -dsimp [h1, h2, h3, h4, h6, h5]; repeat' (first | with_reducible intro _ | with_reducible apply And.intro | (refine chkOk ?_; kernel_rfl))
  refine WL_loop (fun k : Nat => [(2, .blk [I b.kind, I b.n, I b.x, S b.s, .sl (a.l.map vV)]), (3, .blk [I b.kind, I b.n, I b.x, S b.s, .sl (b.l.map vV)]), (4, B false), (5, I k)]) (fun k => a.l.length - k) (fun k => k ≤ a.l.length ∧ a.l.take k = b.l.take k) 0 ⟨Nat.zero_le _, by simp⟩ ?_ ?_
  ·simp -implicitDefEqProofs -dsimp
  ·rintro k ⟨hk, ht⟩
   by_cases hk2 : k < a.l.length
   ·have hk3 : k < b.l.length := by omega
    have hih := ih k hk2 (by have := cntG_get hk2; omega) b.l[k] (by have := cntG_get hk3; omega)
    have hst := sameL_take h5 hk2 ht
    have k1 : (k : Int) < b.l.length := by omega
    have k4 : (k : Int) < a.l.length := by omega
    have k2 : wrK .i64 ((k : Int) + 1) = k + 1 := wrap64_id _ (by omega)
    simp only [vV_eq] at hih
    obtain ⟨x, hx2⟩ : ∃ x, a.l[k] = x := ⟨_, rfl⟩
    obtain ⟨y, hy2⟩ : ∃ y, b.l[k] = y := ⟨_, rfl⟩
    rw [hx2, hy2] at hih hst
    by_cases hxy : x = y
    ·rw [decide_eq_true hxy] at hih
     simp -implicitDefEqProofs -dsimp [-head_L, -endOk, k1, k4, hk2, hk3, hx2, hy2, h5]
     refine wpcall_d hih ?_; simp -implicitDefEqProofs -dsimp [-head_L, -endOk, k2]
     refine ⟨?_, k + 1, ⟨by omega, hst.2 hxy⟩, by omega, ?_⟩
     ·refine chkOk ?_; kernel_rfl
     ·simp -implicitDefEqProofs -dsimp
    ·rw [decide_eq_false hxy] at hih
     obtain rfl := hno (p := a.l.take (k + 1) = b.l.take (k + 1)) (fun e => by rw [e]) (fun h => hxy (hst.1 h))
     simp -implicitDefEqProofs -dsimp [-head_L, k1, k4, hk2, hk3, hx2, hy2, h5]
     refine wpcall_d hih ?_; simp -implicitDefEqProofs -dsimp [-head_L]
     refine chkOk ?_; kernel_rfl
   ·obtain rfl : k = a.l.length := by omega
    have := hyes (by rw [List.take_length, h5, List.take_length] at ht; exact ht)
    subst this
    simp -implicitDefEqProofs -dsimp [-head_L, h5]
theorem iEqualFunc {xs ys : List GVal} (ha : xs.length ≤ 1099511627776) (hb : ys.length ≤ 1099511627776) (hf : ∀ k (h1 : k < xs.length) (h2 : k < ys.length), Fn Tryz.prog 173 [vV xs[k], vV ys[k]] [.un, .un] [B (decide (xs[k] = ys[k]))]) :
  Fn Tryz.prog 196 [.sl (xs.map vV), .sl (ys.map vV), .fn 173 []] [.un, .un, .un] [B (decide (xs = ys))] := by
 generalize hR : decide (xs = ys) = R
 have hno : ∀ {p : Prop}, (xs = ys → p) → ¬ p → R = false := fun h hp => by rw [← hR]; exact decide_eq_false fun e => hp (h e)
 by_cases h5 : xs.length = ys.length
 case neg =>
  obtain rfl := hno (fun e => by rw [e]) h5
  have h6 : ¬ (xs.length : Int) = ys.length := by omega
  refine Fn_of Tryz.func196 rfl rfl (by simp -implicitDefEqProofs -dsimp) rfl ?_; simp only [Tryz.f196]
  simp -implicitDefEqProofs -dsimp [h6, h5]; repeat' (first | with_reducible intro _ | with_reducible apply And.intro | (refine chkOk ?_; kernel_rfl))
 have hyes : xs = ys → R = true := fun h => by rw [← hR]; exact decide_eq_true h
 clear hR
 have h6 : (xs.length : Int) = ys.length := by omega
 refine Fn_of Tryz.func196 rfl rfl (by simp -implicitDefEqProofs -dsimp) rfl ?_; simp only [Tryz.f196]
 simp -implicitDefEqProofs -dsimp [h6, h5]; repeat' (first | with_reducible intro _ | with_reducible apply And.intro | (refine chkOk ?_; kernel_rfl))
 refine WL_loop (fun k : Nat => [(1, .sl (ys.map vV)), (2, .fn 173 []), (6, B false), (15, .sl (xs.map vV)), (16, I xs.length), (17, I k)]) (fun k => xs.length - k) (fun k => k ≤ xs.length ∧ xs.take k = ys.take k) 0 ⟨Nat.zero_le _, by simp⟩ ?_ ?_
 ·simp -implicitDefEqProofs -dsimp; omega
 ·rintro k ⟨hk, ht⟩
  by_cases hk2 : k < xs.length
  ·have hk3 : k < ys.length := by omega
   have hih := hf k hk2 hk3
   have hst := sameL_take h5 hk2 ht
   have k1 : (k : Int) < ys.length := by omega
   have k4 : (k : Int) < xs.length := by omega
   have k2 : wrK .i64 ((k : Int) + 1) = k + 1 := wrap64_id _ (by omega)
   simp only [vV_eq] at hih
   obtain ⟨x, hx2⟩ : ∃ x, xs[k] = x := ⟨_, rfl⟩
   obtain ⟨y, hy2⟩ : ∃ y, ys[k] = y := ⟨_, rfl⟩
   rw [hx2, hy2] at hst
   simp only [hx2, hy2] at hih
   by_cases hxy : x = y
   ·rw [decide_eq_true hxy] at hih
    simp -implicitDefEqProofs -dsimp [-head_L, -endOk, k1, k4, hk2, hk3, hx2, hy2]
    refine wpcall_d hih ?_; simp -implicitDefEqProofs -dsimp [-head_L, -endOk, k2]
    refine ⟨k + 1, ⟨by omega, hst.2 hxy⟩, by omega, ?_⟩
    simp -implicitDefEqProofs -dsimp
   ·rw [decide_eq_false hxy] at hih
    obtain rfl := hno (p := xs.take (k + 1) = ys.take (k + 1)) (fun e => by rw [e]) (fun h => hxy (hst.1 h))
    simp -implicitDefEqProofs -dsimp [-head_L, k1, k4, hk2, hk3, hx2, hy2]
    refine wpcall_d hih ?_; simp -implicitDefEqProofs -dsimp [-head_L]
  ·obtain rfl : k = xs.length := by omega
   have := hyes (by rw [List.take_length, h5, List.take_length] at ht; exact ht)
   subst this
   simp -implicitDefEqProofs -dsimp [-head_L, h5]
theorem iSameVal : ∀ a : GVal, cntG a ≤ 1099511627776 → ∀ b : GVal, cntG b ≤ 1099511627776 → Fn Tryz.prog 173 [vV a, vV b] [.un, .un] [B (decide (a = b))] := by
 intro a
 induction a using GVal.ind with
 | h a ih =>
  intro ha b hb
  rw [cntG_eq] at ha hb
  have hla := cntL_len a.l
  have hlb := cntL_len b.l
  have hE := iEqualFunc (xs := a.l) (ys := b.l) (by omega) (by omega) (fun k h1 h2 => ih k h1 (by have := cntG_get h1; omega) b.l[k] (by have := cntG_get h2; omega))
  simp only [vV_eq]
  generalize hR : decide (a = b) = R
  have hno : ∀ {p : Prop}, (a = b → p) → ¬ p → R = false := fun h hp => by rw [← hR]; exact decide_eq_false fun e => hp (h e)
  by_cases h1 : a.kind = b.kind
  case neg =>
   obtain rfl := hno (fun e => by rw [e]) h1
   refine Fn_of Tryz.func173 rfl rfl (by simp -implicitDefEqProofs -dsimp) rfl ?_; simp only [Tryz.f173]
   simp -implicitDefEqProofs -dsimp [h1]; repeat' (first | with_reducible intro _ | with_reducible apply And.intro | (refine chkOk ?_; kernel_rfl) | (refine wpcall_d (hE) ?_; simp -implicitDefEqProofs -dsimp [h1]))
  by_cases h2 : a.n = b.n
  case neg =>
   obtain rfl := hno (fun e => by rw [e]) h2
   refine Fn_of Tryz.func173 rfl rfl (by simp -implicitDefEqProofs -dsimp) rfl ?_; simp only [Tryz.f173]
   simp -implicitDefEqProofs -dsimp [h1, h2]; repeat' (first | with_reducible intro _ | with_reducible apply And.intro | (refine chkOk ?_; kernel_rfl) | (refine wpcall_d (hE) ?_; simp -implicitDefEqProofs -dsimp [h1, h2]))
  by_cases h3 : a.x = b.x
  case neg =>
   obtain rfl := hno (fun e => by rw [e]) h3
   refine Fn_of Tryz.func173 rfl rfl (by simp -implicitDefEqProofs -dsimp) rfl ?_; simp only [Tryz.f173]
   simp -implicitDefEqProofs -dsimp [h1, h2, h3]; repeat' (first | with_reducible intro _ | with_reducible apply And.intro | (refine chkOk ?_; kernel_rfl) | (refine wpcall_d (hE) ?_; simp -implicitDefEqProofs -dsimp [h1, h2, h3]))
  by_cases h4 : a.s = b.s
  case neg =>
   obtain rfl := hno (fun e => by rw [e]) h4
   refine Fn_of Tryz.func173 rfl rfl (by simp -implicitDefEqProofs -dsimp) rfl ?_; simp only [Tryz.f173]
   simp -implicitDefEqProofs -dsimp [h1, h2, h3, h4]; repeat' (first | with_reducible intro _ | with_reducible apply And.intro | (refine chkOk ?_; kernel_rfl) | (refine wpcall_d (hE) ?_; simp -implicitDefEqProofs -dsimp [h1, h2, h3, h4]))
  have hyes : R = decide (a.l = b.l) := by rw [← hR, decide_eq_decide]; exact ⟨fun e => by rw [e], fun e => gval_eq h1 h2 h3 h4 e⟩
  rw [hyes]
  clear hR hno hyes
  generalize decide (a.l = b.l) = q at *
  refine Fn_of Tryz.func173 rfl rfl (by simp -implicitDefEqProofs -dsimp) rfl ?_; simp only [Tryz.f173]
  simp -implicitDefEqProofs -dsimp [h1, h2, h3, h4]; repeat' (first | with_reducible intro _ | with_reducible apply And.intro | (refine chkOk ?_; kernel_rfl) | (refine wpcall_d (hE) ?_; simp -implicitDefEqProofs -dsimp [h1, h2, h3, h4]))
end Go.Proofs.YtlfblkekbcfjpaaGreatDoor
