/- Part of a proof: contracts and plain laws. -/
import Derived.Test.YtlfblkekbcfjpaaGreatDoorZ24
import Derived.Test.YtlfblkekbcfjpaaGreatDoorZ20
set_option linter.unusedVariables false
set_option linter.unusedSimpArgs false
namespace Go.Proofs.YtlfblkekbcfjpaaGreatDoor
open Go
set_option maxRecDepth 100000
set_option maxHeartbeats 2000000
def shortP (x : Int) : Option (Int × Int) :=
 if x < 128 then some (3, x) else if x < 144 then some (10, x - 128) else if x < 160 then some (9, x - 144) else if x < 192 then some (7, x - 160)
 else if x = 192 then some (1, 0) else if x = 194 ∨ x = 195 then some (2, x - 194) else if 224 ≤ x then some (3, x - 256) else none
theorem ishortMark {x : Int} (h : 0 ≤ x ∧ x < 256) : Fn Tryz.prog 164 [I x] [.un] [.ag [I (optF (shortP x)).1.1, I (optF (shortP x)).1.2], B (optF (shortP x)).2] := by
 have a1 : wrK .i64 (x - 128) = x - 128 := wrap64_id _ (by omega)
 have a2 : wrK .i64 (x - 144) = x - 144 := wrap64_id _ (by omega)
 have a3 : wrK .i64 (x - 160) = x - 160 := wrap64_id _ (by omega)
 have a4 : wrK .i64 (x - 194) = x - 194 := wrap64_id _ (by omega)
 have a5 : wrK .i64 (x - 256) = x - 256 := wrap64_id _ (by omega)
 refine Fn_of Tryz.func164 rfl rfl (by simp -implicitDefEqProofs -dsimp) rfl ?_; simp only [Tryz.f164]
 simp -implicitDefEqProofs -dsimp [a1, a2, a3, a4, a5]
 repeat' (first | with_reducible intro _ | with_reducible apply And.intro | (refine chkOk ?_; kernel_rfl))
 all_goals unfold shortP
 all_goals repeat (first | rw [if_pos (by omega)] | rw [if_neg (by omega)])
 all_goals simp -implicitDefEqProofs -dsimp [optF]
 all_goals omega
theorem s15Byte {x : Int} (h : 0 ≤ x ∧ x < 256) : Fn Tryz.prog 101 [I x] [.un] [.ag [I (optF (shortP x)).1.1, I (optF (shortP x)).1.2], B (optF (shortP x)).2] := by
 have a1 : wrK .i64 (x - 128) = x - 128 := wrap64_id _ (by omega)
 have a2 : wrK .i64 (x - 144) = x - 144 := wrap64_id _ (by omega)
 have a3 : wrK .i64 (x - 160) = x - 160 := wrap64_id _ (by omega)
 have a4 : wrK .i64 (x - 194) = x - 194 := wrap64_id _ (by omega)
 have a5 : wrK .i64 (x - 256) = x - 256 := wrap64_id _ (by omega)
 refine Fn_of Tryz.func101 rfl rfl (by simp -implicitDefEqProofs -dsimp) rfl ?_; simp only [Tryz.f101]
 simp -implicitDefEqProofs -dsimp [a1, a2, a3, a4, a5]
 repeat' (first | with_reducible intro _ | with_reducible apply And.intro | (refine chkOk ?_; kernel_rfl))
 all_goals unfold shortP
 all_goals repeat (first | rw [if_pos (by omega)] | rw [if_neg (by omega)])
 all_goals simp -implicitDefEqProofs -dsimp [optF]
 all_goals omega
def formP (x : Int) : Int × Int := if x = 196 then (8, 1) else if x = 197 then (8, 2) else if x = 198 then (8, 4) else if x = 202 then (4, 4) else if x = 204 then (3, 1) else if x = 205 then (3, 2) else if x = 206 then (3, 4) else if x = 207 then (3, 8) else if x = 208 then (-3, 1) else if x = 209 then (-3, 2) else if x = 210 then (-3, 4) else if x = 211 then (-3, 8) else if x = 212 then (5, 2) else if x = 217 then (7, 1) else if x = 218 then (7, 2) else if x = 219 then (7, 4) else if x = 220 then (9, 2) else if x = 221 then (9, 4) else if x = 222 then (10, 2) else if x = 223 then (10, 4) else (0, 0)
theorem formP_no {x : Int} (h : ¬ (x = 196 ∨ x = 197 ∨ x = 198 ∨ x = 202 ∨ x = 204 ∨ x = 205 ∨ x = 206 ∨ x = 207 ∨ x = 208 ∨ x = 209 ∨ x = 210 ∨ x = 211 ∨ x = 212 ∨ x = 217 ∨ x = 218 ∨ x = 219 ∨ x = 220 ∨ x = 221 ∨ x = 222 ∨ x = 223)) : formP x = (0, 0) := by
 unfold formP
 repeat rw [if_neg (by omega)]
theorem s15Kind {x : Int} (h : 0 ≤ x ∧ x < 256) : Fn Tryz.prog 102 [I x] [.un] [I (formP x).1, I (formP x).2] := by
 by_cases hx : x = 196 ∨ x = 197 ∨ x = 198 ∨ x = 202 ∨ x = 204 ∨ x = 205 ∨ x = 206 ∨ x = 207 ∨ x = 208 ∨ x = 209 ∨ x = 210 ∨ x = 211 ∨ x = 212 ∨ x = 217 ∨ x = 218 ∨ x = 219 ∨ x = 220 ∨ x = 221 ∨ x = 222 ∨ x = 223
 ·rcases hx with rfl | rfl | rfl | rfl | rfl | rfl | rfl | rfl | rfl | rfl | rfl | rfl | rfl | rfl | rfl | rfl | rfl | rfl | rfl | rfl
  all_goals
   simp only [formP, Int.reduceEq, if_true, if_false]
   refine Fn_of Tryz.func102 rfl rfl (by simp -implicitDefEqProofs -dsimp) rfl ?_; simp only [Tryz.f102]
   simp -implicitDefEqProofs -dsimp
   repeat' (first | with_reducible intro _ | with_reducible apply And.intro | (refine chkOk ?_; kernel_rfl) | (refine wpcall_d (sIn) ?_; simp -implicitDefEqProofs -dsimp))
 ·rw [formP_no hx]
  refine Fn_of Tryz.func102 rfl rfl (by simp -implicitDefEqProofs -dsimp) rfl ?_; simp only [Tryz.f102]
  simp -implicitDefEqProofs -dsimp
  repeat' (first | with_reducible intro _ | with_reducible apply And.intro | (refine chkOk ?_; kernel_rfl) | (refine wpcall_d (sIn) ?_; simp -implicitDefEqProofs -dsimp))
  all_goals omega
def kindP (x : Int) : Int × Int := if (formP x).1 = -3 then (3, (formP x).2) else formP x
theorem imarkForm {x : Int} (h : 0 ≤ x ∧ x < 256) : Fn Tryz.prog 165 [I x] [.un] [I (kindP x).1, I (kindP x).2] := by
 by_cases hx : x = 196 ∨ x = 197 ∨ x = 198 ∨ x = 202 ∨ x = 204 ∨ x = 205 ∨ x = 206 ∨ x = 207 ∨ x = 208 ∨ x = 209 ∨ x = 210 ∨ x = 211 ∨ x = 212 ∨ x = 217 ∨ x = 218 ∨ x = 219 ∨ x = 220 ∨ x = 221 ∨ x = 222 ∨ x = 223
 ·rcases hx with rfl | rfl | rfl | rfl | rfl | rfl | rfl | rfl | rfl | rfl | rfl | rfl | rfl | rfl | rfl | rfl | rfl | rfl | rfl | rfl
  all_goals
   simp only [kindP, formP, Int.reduceEq, Int.reduceNeg, if_true, if_false]
   refine Fn_of Tryz.func165 rfl rfl (by simp -implicitDefEqProofs -dsimp) rfl ?_; simp only [Tryz.f165]
   simp -implicitDefEqProofs -dsimp
   repeat' (first | with_reducible intro _ | with_reducible apply And.intro | (refine chkOk ?_; kernel_rfl) | (refine wpcall_d (iwithin) ?_; simp -implicitDefEqProofs -dsimp))
 ·have e : kindP x = (0, 0) := by simp -implicitDefEqProofs -dsimp [kindP, formP_no hx]
  rw [e]
  refine Fn_of Tryz.func165 rfl rfl (by simp -implicitDefEqProofs -dsimp) rfl ?_; simp only [Tryz.f165]
  simp -implicitDefEqProofs -dsimp
  repeat' (first | with_reducible intro _ | with_reducible apply And.intro | (refine chkOk ?_; kernel_rfl) | (refine wpcall_d (iwithin) ?_; simp -implicitDefEqProofs -dsimp))
  all_goals omega
end Go.Proofs.YtlfblkekbcfjpaaGreatDoor
namespace Go.Proofs.YtlfblkekbcfjpaaGreatDoor
open Go
set_option maxRecDepth 100000
set_option maxHeartbeats 2000000
def signedP (w n : Nat) : Int := if n < 256 ^ w / 2 then n else n - 256 ^ w
theorem ori64 {a b : Int} (ha : -36028797018963968 ≤ a ∧ a < 36028797018963968) (hb : 0 ≤ b ∧ b < 256) : bitsV (fun _ x y => x ||| y) .i64 (a * 256) b = 256 * a + b := by
 obtain ⟨b, rfl⟩ : ∃ n : Nat, b = n := ⟨b.toNat, by omega⟩
 unfold bitsV
 obtain ⟨v, hv⟩ : ∃ v : Nat, (a * 256) % 18446744073709551616 = ((v * 256 : Nat) : Int) ∧ v < 72057594037927936 := ⟨(a % 72057594037927936).toNat, by omega, by omega⟩
 have e1 : (BitVec.ofInt 64 (a * 256)).toNat = v * 256 := by
  rw [BitVec.toNat_ofInt]; have := hv.1; omega
 have e2 : (BitVec.ofInt IntKind.i64.bits (a * 256) ||| BitVec.ofInt IntKind.i64.bits (b : Int)).toNat = 256 * v + b := by
  show (BitVec.ofInt 64 (a * 256) ||| BitVec.ofInt 64 (b : Int)).toNat = _
  rw [BitVec.ofInt_natCast, BitVec.toNat_or, e1, BitVec.toNat_ofNat, Nat.mod_eq_of_lt (by omega)]
  have := Nat.shiftLeft_add_eq_or_of_lt (i := 8) (b := b) (by omega) v
  rw [Nat.shiftLeft_eq] at this
  rw [← this]; omega
 rw [e2, wrK_i64]; have := hv.1; omega
theorem bigP_cons (x : UInt8) (l : List UInt8) : bigP (x :: l) = x.toNat * 256 ^ l.length + bigP l := by
 suffices h : ∀ (l : List UInt8) (n : Nat), l.foldl (fun n b => 256 * n + b.toNat) n = n * 256 ^ l.length + bigP l by
  have := h l x.toNat
  unfold bigP at this ⊢
  rw [List.foldl_cons]; simpa using this
 intro l
 induction l with
 | nil => intro n; simp -implicitDefEqProofs -dsimp [bigP]
 | cons y l ih =>
  intro n
  have e : bigP (y :: l) = l.foldl (fun n b => 256 * n + b.toNat) y.toNat := by unfold bigP; rw [List.foldl_cons]; simp -implicitDefEqProofs -dsimp
  rw [e, List.foldl_cons, ih, ih, List.length_cons, Nat.pow_succ, Nat.add_mul, ← Nat.mul_assoc]
  rw [show 256 * n * 256 ^ l.length = n * 256 ^ l.length * 256 by rw [Nat.mul_comm 256 n, Nat.mul_assoc, Nat.mul_comm 256, ← Nat.mul_assoc]]
  omega
theorem iargument {l : List UInt8} {sg : Bool} (hw : l.length = 1 ∨ l.length = 2 ∨ l.length = 4 ∨ l.length = 8) : Fn Tryz.prog 166 [Y l, B sg] [.un, .un]
  (if sg = true then [I (signedP l.length (bigP l)), B (decide (-1000000000000000 ≤ signedP l.length (bigP l)) && decide (signedP l.length (bigP l) ≤ 1000000000000000))] else [I (wrK .i64 (bigP l)), B (decide (bigP l ≤ 1000000000000000))]) := by
 have hb := bigP_lt l
 refine Fn_of Tryz.func166 rfl rfl (by simp -implicitDefEqProofs -dsimp) rfl ?_; simp only [Tryz.f166]
 simp -implicitDefEqProofs -dsimp
 refine WL_loop (fun k : Nat => [(0, Y l), (1, B sg), (6, .sc (.int .u64 (bigP (l.take k)))), (11, Y l), (12, I l.length), (13, I k)]) (fun k => l.length - k) (fun k => k ≤ l.length) 0 (Nat.zero_le _) ?_ ?_
 ·simp -implicitDefEqProofs -dsimp [bigP]
 ·intro k hk
  by_cases hkn : k < l.length
  ·have h8 := bigP_take_lt l k
   have h9 : 256 ^ k ≤ 256 ^ 7 := Nat.pow_le_pow_right (by omega) (by omega)
   simp -implicitDefEqProofs -dsimp [-head_L, -endOk, hkn]
   have := l[k].toNat_lt
   simp (disch := omega) only [wrap64_id, wrapu64_id, fdiv_nn]
   refine ⟨k + 1, by omega, by omega, ?_⟩
   have := or64 (Nat.lt_of_lt_of_le h8 h9) l[k].toNat_lt
   simp -implicitDefEqProofs -dsimp [bigP_take hkn, this]
  ·have hkn : l.take k = l := List.take_of_length_le (by omega)
   have hkl : ¬ k < l.length := by omega
   cases sg
   ·simp -implicitDefEqProofs -dsimp [-head_L, hkn, hkl]; omega
   ·simp -implicitDefEqProofs -dsimp [-head_L, hkn, hkl]
    generalize hN : bigP l = n at *
    have e0 : ∀ w : Nat, (w = 1 ∨ w = 2 ∨ w = 4 ∨ w = 8) → l.length = w → (wrK .u64 (wrK .i64 (64 - wrK .i64 (8 * l.length)))) = 64 - 8 * w := fun w h1 h2 => by
     rw [h2, wrap64_id (8 * w) (by omega), wrap64_id _ (by omega), wrapu64_id _ (by omega)]
    have e1 : ∀ w : Nat, (w = 1 ∨ w = 2 ∨ w = 4 ∨ w = 8) → l.length = w → (wrK .i64 (wrK .u64 (n * 2 ^ min (64 - 8 * (w : Int)).toNat 64))).fdiv (2 ^ min (64 - 8 * (w : Int)).toNat 64) = signedP w n := fun w h1 h2 => by
     rw [h2] at hb
     unfold signedP
     rcases h1 with rfl | rfl | rfl | rfl
     all_goals
      simp at hb ⊢
      (try rw [fdiv_nn _ _ (by omega)]); rw [wrK_i64, wrK_u64]
      split <;> omega
    rw [e0 _ hw rfl, e1 _ hw rfl]
    repeat' (first | with_reducible intro _ | with_reducible apply And.intro | (refine chkOk ?_; kernel_rfl) | (refine wpcall_d (iwithin) ?_; simp -implicitDefEqProofs -dsimp [e0 _ hw rfl, e1 _ hw rfl]))
    all_goals omega
theorem iargument_s {l : List UInt8} (hw : l.length = 1 ∨ l.length = 2 ∨ l.length = 4 ∨ l.length = 8) : Fn Tryz.prog 166 [Y l, B true] [.un, .un] [I (signedP l.length (bigP l)), B (decide (-1000000000000000 ≤ signedP l.length (bigP l)) && decide (signedP l.length (bigP l) ≤ 1000000000000000))] := iargument (sg := true) hw
theorem iargument_u {l : List UInt8} (hw : l.length = 1 ∨ l.length = 2 ∨ l.length = 4 ∨ l.length = 8) : Fn Tryz.prog 166 [Y l, B false] [.un, .un] [I (wrK .i64 (bigP l)), B (decide (bigP l ≤ 1000000000000000))] := iargument (sg := false) hw
def wideN (b : List UInt8) (a w : Nat) : Int × Int := if existP b a w = true then (if bigP ((b.drop a).take w) ≤ 1000000000000000 then (bigP ((b.drop a).take w), 0) else (0, 2)) else (0, 1)
theorem s15Wide {b : List UInt8} {a w : Nat} (hb : b.length ≤ 1099511627776) (ha : a ≤ b.length) (hw : isW w = true) : Fn Tryz.prog 103 [Y b, I a, I w] [.un, .un, .un] [I (wideN b a w).1, I (wideN b a w).2] := by
 unfold wideN
 have hw2 := isW_iff.1 hw
 have e1 : wrK .i64 ((b.length : Int) - a) = b.length - a := wrap64_id _ (by omega)
 by_cases h : existP b a w = true
 ·have h2 := existP_iff.1 h
  have h3 : ¬ ((b.length : Int) - a < w) := by omega
  rw [if_pos h]
  by_cases hm : bigP ((b.drop a).take w) ≤ 1000000000000000
  all_goals
   have e2 := getBigP_at hw h rfl
   simp only [hm, if_true, if_false] at e2 ⊢
   refine Fn_of Tryz.func103 rfl rfl (by simp -implicitDefEqProofs -dsimp) rfl ?_; simp only [Tryz.f103]
   simp -implicitDefEqProofs -dsimp [e1, h3]
   repeat' (first | with_reducible intro _ | with_reducible apply And.intro | (refine chkOk ?_; kernel_rfl) | (refine wpcall_d (s3GetBig hb) ?_; simp -implicitDefEqProofs -dsimp [e2]))
 ·have h3 : (b.length : Int) - a < w := by rw [existP_iff] at h; omega
  rw [if_neg h]
  refine Fn_of Tryz.func103 rfl rfl (by simp -implicitDefEqProofs -dsimp) rfl ?_; simp only [Tryz.f103]
  simp -implicitDefEqProofs -dsimp [e1, h3]
theorem sSigned {n w : Nat} (hw : w = 1 ∨ w = 2 ∨ w = 4) (hn : n < 256 ^ w) : Fn Tryz.prog 142 [I n, I w] [.un, .un] [I (signedP w n)] := by
 unfold signedP
 rcases hw with rfl | rfl | rfl
 all_goals
  simp at hn
  have h1 : (0 : Int) ≤ n := by omega
  have h2 : (n : Int) ≤ 1000000000000000 := by omega
  refine Fn_of Tryz.func142 rfl rfl (by simp -implicitDefEqProofs -dsimp) rfl ?_; simp only [Tryz.f142]
  simp -implicitDefEqProofs -dsimp
  repeat' (first | with_reducible intro _ | with_reducible apply And.intro | (refine chkOk ?_; kernel_rfl) | (refine wpcall_d (sIn) ?_; simp -implicitDefEqProofs -dsimp [h1, h2]))
  all_goals (try rw [wrK_i64])
  all_goals (try split)
  all_goals omega
end Go.Proofs.YtlfblkekbcfjpaaGreatDoor
namespace Go.Proofs.YtlfblkekbcfjpaaGreatDoor
open Go
set_option maxRecDepth 100000
set_option maxHeartbeats 2000000
def headAt (b : List UInt8) (a : Nat) (m i : Int) : (Int × Int × Int) × Int × Int :=
 if i < 24 then ((m, i, 0), a + 1, 0)
 else if i = 31 then (if m = 0 ∨ m = 1 ∨ m = 6 then ((0, 0, 0), 0, 1) else ((m, 0, -1), a + 1, 0))
 else if 27 < i then ((0, 0, 0), 0, 1)
 else if existP b (a + 1) (2 ^ (i - 24).toNat) = true then (if (getBigP b (a + 1) (2 ^ (i - 24).toNat)).2 = true then ((m, (getBigP b (a + 1) (2 ^ (i - 24).toNat)).1, 2 ^ (i - 24).toNat), a + 1 + 2 ^ (i - 24).toNat, 0) else ((0, 0, 0), 0, 2))
 else ((0, 0, 0), 0, 1)
def getHeadP (b : List UInt8) (at_ : Int) : (Int × Int × Int) × Int × Int :=
 if at_ < 0 then ((0, 0, 0), 0, 1) else match b[at_.toNat]? with
 | some x => headAt b at_.toNat (x.toNat / 32) (x.toNat % 32)
 | none => ((0, 0, 0), 0, 1)
theorem getHeadP_at {b : List UInt8} {a : Nat} {x : UInt8} (h : b[a]? = some x) : getHeadP b a = headAt b a (x.toNat / 32) (x.toNat % 32) := by
 unfold getHeadP; rw [if_neg (by omega)]; simp -implicitDefEqProofs -dsimp [h]
theorem getHeadP_no {b : List UInt8} {at_ : Int} (h : ¬ (0 ≤ at_ ∧ at_ < b.length)) : getHeadP b at_ = ((0, 0, 0), 0, 1) := by
 unfold getHeadP
 by_cases h1 : at_ < 0
 ·rw [if_pos h1]
 ·rw [if_neg h1, List.getElem?_eq_none (by omega)]
theorem mod32 (i : Int) (h0 : 0 ≤ i) (h : i < 32) : i < 24 ∨ i = 31 ∨ (27 < i ∧ i ≠ 31) ∨ i = 24 ∨ i = 25 ∨ i = 26 ∨ i = 27 := by
 rcases Int.lt_or_le i 24 with h1 | h1
 ·exact .inl h1
 ·rcases Int.lt_or_le 27 i with h2 | h2
  ·by_cases h3 : i = 31
   ·exact .inr (.inl h3)
   ·exact .inr (.inr (.inl ⟨h2, h3⟩))
  ·refine .inr (.inr (.inr ?_)); omega
theorem byte_at {b : List UInt8} {a : Nat} (ha : a < b.length) : ∃ (x : UInt8) (y m i : Int), b[a]? = some x ∧ b[a] = x ∧ (x.toNat : Int) = y ∧ wrK .i64 y = y ∧ 0 ≤ y ∧ y < 256 ∧ y.tdiv 32 = m ∧ y.tmod 32 = i ∧ wrK .i64 m = m ∧ m = x.toNat / 32 ∧ i = x.toNat % 32 ∧ 0 ≤ i ∧ i < 32 ∧ 0 ≤ m ∧ m < 8 :=
 ⟨b[a], _, _, _, List.getElem?_eq_getElem ha, rfl, rfl, wrap_byte _, by omega, by have := b[a].toNat_lt; omega, rfl, rfl, by rw [tdiv_nat]; exact wrap64_id _ (by have := b[a].toNat_lt; omega), tdiv_nat _ _, tmod_nat _ _, by rw [tmod_nat]; omega, by rw [tmod_nat]; omega, by rw [tdiv_nat]; omega, by have := b[a].toNat_lt; rw [tdiv_nat]; omega⟩
theorem iGetHead {b : List UInt8} {at_ : Int} (hb : b.length ≤ 1099511627776) : Fn Tryz.prog 160 [Y b, I at_] [.un, .un] [.ag [I (getHeadP b at_).1.1, I (getHeadP b at_).1.2.1, I (getHeadP b at_).1.2.2], I (getHeadP b at_).2.1, I (getHeadP b at_).2.2] := by
 have hL : wrK .i64 (↑b.length - 1) = b.length - 1 := wrap64_id _ (by omega)
 by_cases hat : 0 ≤ at_ ∧ at_ < b.length
 ·obtain ⟨a, rfl⟩ : ∃ a : Nat, at_ = a := ⟨at_.toNat, by omega⟩
  have ha : a < b.length := by omega
  obtain ⟨x, y, m, i, hx, hx2, hy, hwy, _, _, hm, hi, hwm, em, ei, i0, i1, m0, m1⟩ := byte_at ha
  have ha1 : (a : Int) ≤ b.length - 1 := by omega
  have e1 : wrK .i64 ((a : Int) + 1) = a + 1 := wrap64_id _ (by omega)
  rw [getHeadP_at hx, ← em, ← ei]
  generalize hr : headAt b a m i = r
  unfold headAt at hr
  rcases mod32 i i0 i1 with hc | hc | hc | hc | hc | hc | hc
  ·rw [if_pos hc] at hr; subst hr
   refine Fn_of Tryz.func160 rfl rfl (by simp -implicitDefEqProofs -dsimp) rfl ?_; simp only [Tryz.f160]
   simp -implicitDefEqProofs -dsimp
   repeat' (first | with_reducible intro _ | with_reducible apply And.intro | (refine chkOk ?_; kernel_rfl) | (refine wpcall_d (iwithin) ?_; simp -implicitDefEqProofs -dsimp [ha, hx2, hL, hc, ha1, e1, hy, hwy, hm, hi, hwm]))
  ·subst hc
   rw [if_neg (by omega), if_pos rfl] at hr
   by_cases hm6 : m = 0 ∨ m = 1 ∨ m = 6
   ·have hk : headOkP m 0 (-1) = false := by rcases hm6 with h | h | h <;> simp -implicitDefEqProofs -dsimp [headOkP, h]
    rw [if_pos hm6] at hr; subst hr
    refine Fn_of Tryz.func160 rfl rfl (by simp -implicitDefEqProofs -dsimp) rfl ?_; simp only [Tryz.f160]
    simp -implicitDefEqProofs -dsimp
    repeat' (first | with_reducible intro _ | with_reducible apply And.intro | (refine chkOk ?_; kernel_rfl) | (refine wpcall_d (iwithin) ?_; simp -implicitDefEqProofs -dsimp [ha, hx2, hL, ha1, e1, hy, hwy, hm, hi, hwm, hk]) | (refine wpcall_d (iHeadOk) ?_; simp -implicitDefEqProofs -dsimp [ha, hx2, hL, ha1, e1, hy, hwy, hm, hi, hwm, hk]))
   ·have hk : headOkP m 0 (-1) = true := by simp -implicitDefEqProofs -dsimp [headOkP]; omega
    rw [if_neg hm6] at hr; subst hr
    refine Fn_of Tryz.func160 rfl rfl (by simp -implicitDefEqProofs -dsimp) rfl ?_; simp only [Tryz.f160]
    simp -implicitDefEqProofs -dsimp
    repeat' (first | with_reducible intro _ | with_reducible apply And.intro | (refine chkOk ?_; kernel_rfl) | (refine wpcall_d (iwithin) ?_; simp -implicitDefEqProofs -dsimp [ha, hx2, hL, ha1, e1, hy, hwy, hm, hi, hwm, hk]) | (refine wpcall_d (iHeadOk) ?_; simp -implicitDefEqProofs -dsimp [ha, hx2, hL, ha1, e1, hy, hwy, hm, hi, hwm, hk]))
  ·have hc2 : ¬ i < 24 := by omega
   rw [if_neg hc2, if_neg hc.2, if_pos hc.1] at hr; subst hr
   refine Fn_of Tryz.func160 rfl rfl (by simp -implicitDefEqProofs -dsimp) rfl ?_; simp only [Tryz.f160]
   simp -implicitDefEqProofs -dsimp
   repeat' (first | with_reducible intro _ | with_reducible apply And.intro | (refine chkOk ?_; kernel_rfl) | (refine wpcall_d (iwithin) ?_; simp -implicitDefEqProofs -dsimp [ha, hx2, hL, hc2, hc.1, hc.2, ha1, e1, hy, hwy, hm, hi, hwm]) | (refine wpcall_d (iexist hb) ?_; simp -implicitDefEqProofs -dsimp [ha, hx2, hL, hc2, hc.1, hc.2, ha1, e1, hy, hwy, hm, hi, hwm]))
  all_goals
   subst hc
   have e3 : wrK .i64 ((a : Int) + 1 + 1) = a + 1 + 1 := wrap64_id _ (by omega)
   have e4 : wrK .i64 ((a : Int) + 1 + 2) = a + 1 + 2 := wrap64_id _ (by omega)
   have e5 : wrK .i64 ((a : Int) + 1 + 4) = a + 1 + 4 := wrap64_id _ (by omega)
   have e6 : wrK .i64 ((a : Int) + 1 + 8) = a + 1 + 8 := wrap64_id _ (by omega)
   simp at hr
   refine Fn_of Tryz.func160 rfl rfl (by simp -implicitDefEqProofs -dsimp) rfl ?_; simp only [Tryz.f160]
   simp -implicitDefEqProofs -dsimp
   repeat' (first | with_reducible intro _ | with_reducible apply And.intro | (refine chkOk ?_; kernel_rfl) | (refine wpcall_d (iwithin) ?_; simp -implicitDefEqProofs -dsimp [ha, hx2, hL, ha1, e1, hy, hwy, hm, hi, hwm, e3, e4, e5, e6]) | (refine wpcall_d (iexist hb) ?_; simp -implicitDefEqProofs -dsimp [ha, hx2, hL, ha1, e1, hy, hwy, hm, hi, hwm, e3, e4, e5, e6]) | (refine wpcall_d (iGetBig hb) ?_; simp -implicitDefEqProofs -dsimp [ha, hx2, hL, ha1, e1, hy, hwy, hm, hi, hwm, e3, e4, e5, e6]))
   all_goals subst hr
   all_goals simp_all
 ·rw [getHeadP_no hat]
  have hat2 : ¬ (at_ ≤ b.length - 1) ∨ ¬ (0 ≤ at_) := by omega
  refine Fn_of Tryz.func160 rfl rfl (by simp -implicitDefEqProofs -dsimp) rfl ?_; simp only [Tryz.f160]
  simp -implicitDefEqProofs -dsimp
  repeat' (first | with_reducible intro _ | with_reducible apply And.intro | (refine chkOk ?_; kernel_rfl) | (refine wpcall_d (iwithin) ?_; simp -implicitDefEqProofs -dsimp [hL]))
  all_goals omega
theorem sGetHead {b : List UInt8} {at_ : Int} (hb : b.length ≤ 1099511627776) : Fn Tryz.prog 65 [Y b, I at_] [.un, .un] [.ag [I (getHeadP b at_).1.1, I (getHeadP b at_).1.2.1, I (getHeadP b at_).1.2.2], I (getHeadP b at_).2.1, I (getHeadP b at_).2.2] := by
 by_cases hat : 0 ≤ at_ ∧ at_ < b.length
 ·obtain ⟨a, rfl⟩ : ∃ a : Nat, at_ = a := ⟨at_.toNat, by omega⟩
  have ha : a < b.length := by omega
  obtain ⟨x, y, m, i, hx, hx2, hy, hwy, _, _, hm, hi, hwm, em, ei, i0, i1, m0, m1⟩ := byte_at ha
  have han : ¬ ((a : Int) < 0) := by omega
  have hab : ¬ (b.length ≤ a) := by omega
  have hE : ∀ w : Int, 0 ≤ w → existP b (a + 1) w = decide (w ≤ b.length - a - 1) := fun w hw => by rw [Bool.eq_iff_iff, existP_iff, decide_eq_true_eq]; omega
  have e1 : wrK .i64 ((a : Int) + 1) = a + 1 := wrap64_id _ (by omega)
  have hL1 : wrK .i64 ((b.length : Int) - a) = b.length - a := wrap64_id _ (by omega)
  have hL2 : wrK .i64 ((b.length : Int) - a - 1) = b.length - a - 1 := wrap64_id _ (by omega)
  rw [getHeadP_at hx, ← em, ← ei]
  generalize hr : headAt b a m i = r
  unfold headAt at hr
  rcases mod32 i i0 i1 with hc | hc | hc | hc | hc | hc | hc
  ·rw [if_pos hc] at hr; subst hr
   refine Fn_of Tryz.func65 rfl rfl (by simp -implicitDefEqProofs -dsimp) rfl ?_; simp only [Tryz.f65]
   simp -implicitDefEqProofs -dsimp [han, hab, ha, hx2, hc, e1, hy, hwy, hm, hi, hwm]
  ·subst hc
   rw [if_neg (by omega), if_pos rfl] at hr
   by_cases hm6 : m = 0 ∨ m = 1 ∨ m = 6
   ·have hk : headOkP m 0 (-1) = false := by rcases hm6 with h | h | h <;> simp -implicitDefEqProofs -dsimp [headOkP, h]
    rw [if_pos hm6] at hr; subst hr
    refine Fn_of Tryz.func65 rfl rfl (by simp -implicitDefEqProofs -dsimp) rfl ?_; simp only [Tryz.f65]
    simp -implicitDefEqProofs -dsimp [han, hab, ha, hx2, e1, hy, hwy, hm, hi, hwm]
    repeat' (first | with_reducible intro _ | with_reducible apply And.intro | (refine chkOk ?_; kernel_rfl) | (refine wpcall_d (sHeadOk) ?_; simp -implicitDefEqProofs -dsimp [ha, hx2, e1, hy, hwy, hm, hi, hwm, hk]))
   ·have hk : headOkP m 0 (-1) = true := by simp -implicitDefEqProofs -dsimp [headOkP]; omega
    rw [if_neg hm6] at hr; subst hr
    refine Fn_of Tryz.func65 rfl rfl (by simp -implicitDefEqProofs -dsimp) rfl ?_; simp only [Tryz.f65]
    simp -implicitDefEqProofs -dsimp [han, hab, ha, hx2, e1, hy, hwy, hm, hi, hwm]
    repeat' (first | with_reducible intro _ | with_reducible apply And.intro | (refine chkOk ?_; kernel_rfl) | (refine wpcall_d (sHeadOk) ?_; simp -implicitDefEqProofs -dsimp [ha, hx2, e1, hy, hwy, hm, hi, hwm, hk]))
  ·have hc2 : ¬ i < 24 := by omega
   rw [if_neg hc2, if_neg hc.2, if_pos hc.1] at hr; subst hr
   refine Fn_of Tryz.func65 rfl rfl (by simp -implicitDefEqProofs -dsimp) rfl ?_; simp only [Tryz.f65]
   simp -implicitDefEqProofs -dsimp [han, hab, ha, hx2, hc2, hc.1, hc.2, e1, hy, hwy, hm, hi, hwm]
  all_goals
   subst hc
   have e3 : wrK .i64 ((a : Int) + 1 + 1) = a + 1 + 1 := wrap64_id _ (by omega)
   have e4 : wrK .i64 ((a : Int) + 1 + 2) = a + 1 + 2 := wrap64_id _ (by omega)
   have e5 : wrK .i64 ((a : Int) + 1 + 4) = a + 1 + 4 := wrap64_id _ (by omega)
   have e6 : wrK .i64 ((a : Int) + 1 + 8) = a + 1 + 8 := wrap64_id _ (by omega)
   simp -implicitDefEqProofs -dsimp [hE] at hr
   refine Fn_of Tryz.func65 rfl rfl (by simp -implicitDefEqProofs -dsimp) rfl ?_; simp only [Tryz.f65]
   simp -implicitDefEqProofs -dsimp [han, hab, ha, hx2, e1, hy, hwy, hm, hi, hwm, hL1, hL2]
   repeat' (first | with_reducible intro _ | with_reducible apply And.intro | (refine chkOk ?_; kernel_rfl) | (refine wpcall_d (s3GetBig hb) ?_; simp -implicitDefEqProofs -dsimp [e1, e3, e4, e5, e6]))
   all_goals subst hr
   all_goals simp_all
   all_goals rw [if_neg (by omega)]
 ·rw [getHeadP_no hat]
  have hat2 : ¬ (at_ < b.length) ∨ ¬ (0 ≤ at_) := by omega
  refine Fn_of Tryz.func65 rfl rfl (by simp -implicitDefEqProofs -dsimp) rfl ?_; simp only [Tryz.f65]
  simp -implicitDefEqProofs -dsimp
  repeat' (first | with_reducible intro _ | with_reducible apply And.intro | (refine chkOk ?_; kernel_rfl))
  all_goals omega
end Go.Proofs.YtlfblkekbcfjpaaGreatDoor
