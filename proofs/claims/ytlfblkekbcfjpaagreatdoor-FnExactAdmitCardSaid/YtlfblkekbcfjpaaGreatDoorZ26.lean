/- Part of a proof: contracts and plain laws. -/
import Derived.Test.YtlfblkekbcfjpaaGreatDoorZ25
set_option linter.unusedVariables false
set_option linter.unusedSimpArgs false
namespace Go.Proofs.YtlfblkekbcfjpaaGreatDoor
open Go
set_option maxRecDepth 100000
set_option maxHeartbeats 2000000
theorem below_v {l r : List UInt8} {x0 : UInt8} (hn : l.length = 8) (hr : l = x0 :: r) {k : Nat} (hk1 : 1 ≤ k) (hk8 : k ≤ 8) : ∃ q : Nat, 256 ^ k = 256 * q ∧ 1 ≤ q ∧ 256 * bigP (l.take k) < 256 * 256 * q ∧ (x0.toNat < 128 → bigP (l.take k) < 128 * q) ∧ (128 ≤ x0.toNat → 128 * q ≤ bigP (l.take k)) := by
 obtain ⟨j, rfl⟩ : ∃ j, k = j + 1 := ⟨k - 1, by omega⟩
 have h5 : bigP (l.take (j + 1)) = x0.toNat * 256 ^ j + bigP (r.take j) := by
  rw [hr, List.take_succ_cons, bigP_cons, List.length_take]
  have : r.length = 7 := by rw [hr] at hn; simpa using hn
  rw [this, Nat.min_eq_left (by omega)]
 have h6 := bigP_take_lt r j
 have h7 := x0.toNat_lt
 have hp : 1 ≤ 256 ^ j := Nat.pow_pos (by omega)
 have hs : 256 ^ (j + 1) = 256 * 256 ^ j := by rw [Nat.pow_succ]; omega
 rw [h5, hs]
 generalize 256 ^ j = q at h6 hp
 generalize bigP (r.take j) = t at h6
 refine ⟨q, rfl, hp, ?_, fun h => ?_, fun h => ?_⟩
 ·have h10 : x0.toNat * q ≤ 255 * q := Nat.mul_le_mul_right _ (by omega)
  omega
 ·have h10 : x0.toNat * q ≤ 127 * q := Nat.mul_le_mul_right _ (by omega)
  omega
 ·have h10 : 128 * q ≤ x0.toNat * q := Nat.mul_le_mul_right _ (by omega)
  omega
theorem below_fin {l r : List UInt8} {x0 : UInt8} {c : Int} (hn : l.length = 8) (hr : l = x0 :: r) (hc : c = if 128 ≤ x0.toNat then 1 else 0) : signedP 8 (bigP l) = bigP l - c * 256 ^ 8 := by
 obtain ⟨q, h4, h5, h6, h7, h8⟩ := below_v hn hr (k := 8) (by omega) (by omega)
 have hlt : l.take 8 = l := List.take_of_length_le (by omega)
 rw [hlt] at h6 h7 h8
 unfold signedP
 have e : (256 : Int) ^ 8 = 18446744073709551616 := by decide
 have e' : (256 : Nat) ^ 8 = 18446744073709551616 := by decide
 rw [e'] at h4
 rw [e, e']
 generalize bigP l = n at *
 split at hc
 ·rename_i h; subst hc; rw [if_neg (by have := h8 h; omega)]; omega
 ·rename_i h; subst hc; rw [if_pos (by have := h7 (by omega); omega)]; omega
theorem below_key {l r : List UInt8} {x0 : UInt8} {c : Int} (hn : l.length = 8) (hr : l = x0 :: r) (hc : c = if 128 ≤ x0.toNat then 1 else 0) (k : Nat) (hk : k < 8) : -36028797018963968 ≤ (bigP (l.take k) : Int) - c * 256 ^ k ∧ (bigP (l.take k) : Int) - c * 256 ^ k < 36028797018963968 := by
 rcases Nat.eq_zero_or_pos k with h4 | h4
 ·subst h4; simp -implicitDefEqProofs -dsimp [bigP]; split at hc <;> omega
 ·obtain ⟨q, h5, h6, h7, h8, h9⟩ := below_v hn hr (k := k) h4 (by omega)
  have h10 : 256 ^ k ≤ 256 ^ 7 := Nat.pow_le_pow_right (by omega) (by omega)
  have e : (256 : Int) ^ k = ((256 ^ k : Nat) : Int) := by simp -implicitDefEqProofs -dsimp
  rw [e, h5]
  rw [h5] at h10
  have h11 : 256 * q ≤ 72057594037927936 := h10
  generalize bigP (l.take k) = n at *
  clear h10 e h5
  split at hc
  ·rename_i h; subst hc; have := h9 h; omega
  ·rename_i h; subst hc; have := h8 (by omega); omega
def belowN (b : List UInt8) (a w : Nat) : Int × Int := if existP b a w = true then (if -1000000000000000 ≤ signedP w (bigP ((b.drop a).take w)) ∧ signedP w (bigP ((b.drop a).take w)) ≤ 1000000000000000 then (signedP w (bigP ((b.drop a).take w)), 0) else (0, 2)) else (0, 1)
theorem s15Below {b : List UInt8} {a w : Nat} (hb : b.length ≤ 1099511627776) (ha : a ≤ b.length) (hw : isW w = true) : Fn Tryz.prog 104 [Y b, I a, I w] [.un, .un, .un] [I (belowN b a w).1, I (belowN b a w).2] := by
 unfold belowN
 have hw2 := isW_iff.1 hw
 have e1 : wrK .i64 ((b.length : Int) - a) = b.length - a := wrap64_id _ (by omega)
 by_cases h : existP b a w = true
 ·have h2 := existP_iff.1 h
  have h3 : ¬ ((b.length : Int) - a < w) := by omega
  rw [if_pos h]
  by_cases h8 : w < 8
  ·have hw3 : w = 1 ∨ w = 2 ∨ w = 4 := by omega
   obtain ⟨l, hl⟩ : ∃ l, (b.drop a).take w = l := ⟨_, rfl⟩
   have hn : l.length = w := by rw [← hl]; simp -implicitDefEqProofs -dsimp; omega
   have hbl := bigP_lt l
   rw [hn] at hbl
   have h9 : 256 ^ w ≤ 4294967296 := by rcases hw3 with rfl | rfl | rfl <;> decide
   have e2 := getBigP_at hw h hl
   rw [if_pos (by omega)] at e2
   have hs : -1000000000000000 ≤ signedP w (bigP l) ∧ signedP w (bigP l) ≤ 1000000000000000 := by
    unfold signedP; rcases hw3 with rfl | rfl | rfl <;> simp at hbl ⊢ <;> split <;> omega
   rw [hl, if_pos hs]
   refine Fn_of Tryz.func104 rfl rfl (by simp -implicitDefEqProofs -dsimp) rfl ?_; simp only [Tryz.f104]
   have h8' : (w : Int) < 8 := by omega
   simp -implicitDefEqProofs -dsimp [e1, h3, h8']
   repeat' (first | with_reducible intro _ | with_reducible apply And.intro | (refine chkOk ?_; kernel_rfl) | (refine wpcall_d (s3GetBig hb) ?_; simp -implicitDefEqProofs -dsimp [e2]) | (refine wpcall_d (sSigned hw3 hbl) ?_; simp -implicitDefEqProofs -dsimp [e2]))
  ·have hw8 : w = 8 := by omega
   subst hw8
   obtain ⟨l, hl⟩ : ∃ l, (b.drop a).take 8 = l := ⟨_, rfl⟩
   have hn : l.length = 8 := by rw [← hl]; simp -implicitDefEqProofs -dsimp; omega
   rw [hl]
   have hx : ∀ k : Nat, k < 8 → ∃ x, b[a + k]? = some x ∧ l[k]? = some x := fun k hk => by
    refine ⟨l[k], ?_, List.getElem?_eq_getElem (by omega)⟩
    rw [List.getElem?_eq_getElem (by omega)]; simp -implicitDefEqProofs -dsimp [← hl]
   obtain ⟨x0, hx0, hx0'⟩ := hx 0 (by omega)
   have ha0 : a < b.length := by omega
   have hx02 : b[a] = x0 := by rw [Nat.add_zero, List.getElem?_eq_getElem ha0] at hx0; exact Option.some.inj hx0
   obtain ⟨c, hc⟩ : ∃ c : Int, c = if 128 ≤ x0.toNat then 1 else 0 := ⟨_, rfl⟩
   obtain ⟨r, hr⟩ : ∃ r, l = x0 :: r := by
    cases l with
    | nil => simp at hn
    | cons y r => exact ⟨r, by simp at hx0'; rw [hx0']⟩
   have hfin := below_fin hn hr hc
   have key := below_key hn hr hc
   have hcx : ((if 128 ≤ x0.toNat then (-1 : Int) else 0)) = -c := by split at hc <;> omega
   have h3' : ¬ ((b.length : Int) - a < 8) := by omega
   generalize hR : (if -1000000000000000 ≤ signedP 8 (bigP l) ∧ signedP 8 (bigP l) ≤ 1000000000000000 then (signedP 8 (bigP l), (0 : Int)) else (0, 2)) = R
   have hl8 : l.take 8 = l := List.take_of_length_le (by omega)
   refine Fn_of Tryz.func104 rfl rfl (by simp -implicitDefEqProofs -dsimp) rfl ?_; simp only [Tryz.f104]
   simp -implicitDefEqProofs -dsimp [e1, h3', ha0, hx02]
   constructor
   all_goals
    intro hcc
    refine WL_loop (fun k : Nat => [(0, Y b), (1, I a), (10, I (bigP (l.take k) - c * 256 ^ k)), (11, I k)]) (fun k => 8 - k) (fun k => k ≤ 8) 0 (Nat.zero_le _) ?_ ?_
    ·simp -implicitDefEqProofs -dsimp [bigP]; omega
    ·intro k hk
     by_cases hk8 : k < 8
     ·obtain ⟨x, hx1, hx2⟩ := hx k hk8
      have hk8' : (k : Int) < 8 := by omega
      have e4 : wrK .i64 ((a : Int) + k) = a + k := wrap64_id _ (by omega)
      have e5 : ((a : Int) + k).toNat = a + k := by omega
      have e6 : (0 : Int) ≤ a + k := by omega
      have e7 : (a : Int) + k < b.length := by omega
      have e8 : a + k < b.length := by omega
      have e9 : b[a + k] = x := by rw [List.getElem?_eq_getElem e8] at hx1; exact Option.some.inj hx1
      have hky := key k hk8
      have hxl := x.toNat_lt
      have e10 := wrap_byte x
      have e11 := ori64 hky (b := x.toNat) (by omega)
      have e12 := wrap64_id (((bigP (l.take k) : Int) - c * 256 ^ k) * 256) (by omega)
      have hkl : k < l.length := by omega
      have e13 : l[k] = x := by rw [List.getElem?_eq_getElem hkl] at hx2; exact Option.some.inj hx2
      have e14 : 256 * ((bigP (l.take k) : Int) - c * 256 ^ k) + x.toNat = bigP (l.take (k + 1)) - c * 256 ^ (k + 1) := by
       rw [bigP_take hkl, e13, Int.pow_succ]
       have : c * (256 ^ k * 256) = 256 * (c * 256 ^ k) := by rw [← Int.mul_assoc, Int.mul_comm]
       rw [this]; omega
      generalize hV : ((bigP (l.take k) : Int) - c * 256 ^ k) = v at *
      simp -implicitDefEqProofs -dsimp [-head_L, -endOk, hk8', e4, e5, e6, e7, e8, e9, e10, e11, e12]
      simp (disch := omega) only [wrap64_id, wrapu64_id, fdiv_nn]
      refine ⟨k + 1, by omega, by omega, ?_⟩
      simp -implicitDefEqProofs -dsimp [e14]
     ·have hk8' : ¬ (k : Int) < 8 := by omega
      have : k = 8 := by omega
      subst this
      rw [hl8, ← hfin]
      simp -implicitDefEqProofs -dsimp [-head_L, -endOk]
      repeat' (first | with_reducible intro _ | with_reducible apply And.intro | (refine chkOk ?_; kernel_rfl) | (refine wpcall_d (sIn) ?_; simp -implicitDefEqProofs -dsimp))
      all_goals rw [← hR]
      all_goals first | rw [if_pos (by omega)] | rw [if_neg (by omega)]
 ·have h3 : (b.length : Int) - a < w := by rw [existP_iff] at h; omega
  rw [if_neg h]
  refine Fn_of Tryz.func104 rfl rfl (by simp -implicitDefEqProofs -dsimp) rfl ?_; simp only [Tryz.f104]
  simp -implicitDefEqProofs -dsimp [e1, h3]
def markAt (b : List UInt8) (a : Nat) (x : Int) : (Int × Int) × Int × Int :=
 match shortP x with
 | some m => (m, a + 1, 0)
 | none =>
  if (formP x).1 = 0 ∨ existP b (a + 1) (formP x).2 = false then ((0, 0), 0, 1)
  else if (formP x).1 = -3 then
   (if -1000000000000000 ≤ signedP (formP x).2.toNat (bigP ((b.drop (a + 1)).take (formP x).2.toNat)) ∧ signedP (formP x).2.toNat (bigP ((b.drop (a + 1)).take (formP x).2.toNat)) ≤ 1000000000000000 then ((3, signedP (formP x).2.toNat (bigP ((b.drop (a + 1)).take (formP x).2.toNat))), a + 1 + (formP x).2, 0) else ((0, 0), 0, 2))
  else if (formP x).1 = 3 then (if bigP ((b.drop (a + 1)).take (formP x).2.toNat) ≤ 1000000000000000 then ((3, bigP ((b.drop (a + 1)).take (formP x).2.toNat)), a + 1 + (formP x).2, 0) else ((0, 0), 0, 2))
  else if (formP x).1 = 5 then (if 256 ≤ bigP ((b.drop (a + 1)).take 2) ∧ bigP ((b.drop (a + 1)).take 2) ≤ 258 then ((5, bigP ((b.drop (a + 1)).take 2) - 256), a + 1 + 2, 0) else ((0, 0), 0, 1))
  else if (formP x).1 = 4 then (match bitsFltP (bigP ((b.drop (a + 1)).take 4)) with | some p => ((4, fltBitsP p.1 p.2), a + 1 + 4, 0) | none => ((0, 0), 0, 1))
  else if bigP ((b.drop (a + 1)).take (formP x).2.toNat) ≤ 65535 then (((formP x).1, bigP ((b.drop (a + 1)).take (formP x).2.toNat)), a + 1 + (formP x).2, 0) else ((0, 0), 0, 2)
def getMarkP (b : List UInt8) (at_ : Int) : (Int × Int) × Int × Int :=
 if at_ < 0 then ((0, 0), 0, 1) else match b[at_.toNat]? with
 | some x => markAt b at_.toNat x.toNat
 | none => ((0, 0), 0, 1)
theorem getMarkP_at {b : List UInt8} {a : Nat} {x : UInt8} (h : b[a]? = some x) : getMarkP b a = markAt b a x.toNat := by
 unfold getMarkP; rw [if_neg (by omega)]; simp -implicitDefEqProofs -dsimp [h]
theorem getMarkP_no {b : List UInt8} {at_ : Int} (h : ¬ (0 ≤ at_ ∧ at_ < b.length)) : getMarkP b at_ = ((0, 0), 0, 1) := by
 unfold getMarkP
 by_cases h1 : at_ < 0
 ·rw [if_pos h1]
 ·rw [if_neg h1, List.getElem?_eq_none (by omega)]
theorem formP_cases (x : Int) : ∃ f w : Int, formP x = (f, w) ∧ ((f = 0 ∧ w = 0 ∧ ¬ (208 ≤ x ∧ x ≤ 211)) ∨ (f = -3 ∧ isW w = true ∧ 208 ≤ x ∧ x ≤ 211) ∨ (¬ (208 ≤ x ∧ x ≤ 211) ∧ isW w = true ∧ (f = 3 ∨ (f = 5 ∧ w = 2) ∨ (f = 4 ∧ w = 4) ∨ (7 ≤ f ∧ f ≤ 10 ∧ w ≤ 4)))) := by
 by_cases h : x = 196 ∨ x = 197 ∨ x = 198 ∨ x = 202 ∨ x = 204 ∨ x = 205 ∨ x = 206 ∨ x = 207 ∨ x = 208 ∨ x = 209 ∨ x = 210 ∨ x = 211 ∨ x = 212 ∨ x = 217 ∨ x = 218 ∨ x = 219 ∨ x = 220 ∨ x = 221 ∨ x = 222 ∨ x = 223
 ·rcases h with rfl | rfl | rfl | rfl | rfl | rfl | rfl | rfl | rfl | rfl | rfl | rfl | rfl | rfl | rfl | rfl | rfl | rfl | rfl | rfl <;> exact ⟨_, _, rfl, by decide⟩
 ·exact ⟨0, 0, formP_no h, .inl ⟨rfl, rfl, by omega⟩⟩
theorem bigP_le {l : List UInt8} {w : Nat} (h : l.length = w) (hw : w = 1 ∨ w = 2 ∨ w = 4) : bigP l < 4294967296 := by
 have := bigP_lt l
 rw [h] at this
 rcases hw with rfl | rfl | rfl <;> simp at this <;> omega
theorem bigP_two {l : List UInt8} (h : l.length = 2) : ∃ x y : UInt8, l = [x, y] ∧ bigP l = 256 * x.toNat + y.toNat := by
 match l, h with
 | [x, y], _ => exact ⟨x, y, rfl, by simp -implicitDefEqProofs -dsimp [bigP]⟩
theorem iGetMark {b : List UInt8} {at_ : Int} (hb : b.length ≤ 1099511627776) : Fn Tryz.prog 127 [Y b, I at_] [.un, .un] [.ag [I (getMarkP b at_).1.1, I (getMarkP b at_).1.2], I (getMarkP b at_).2.1, I (getMarkP b at_).2.2] := by
 by_cases hat : 0 ≤ at_ ∧ at_ < b.length
 ·obtain ⟨a, rfl⟩ : ∃ a : Nat, at_ = a := ⟨at_.toNat, by omega⟩
  have ha : a < b.length := by omega
  obtain ⟨z, hz⟩ : ∃ z, b[a]? = some z := ⟨_, List.getElem?_eq_getElem ha⟩
  have hz2 : b[a] = z := by rw [List.getElem?_eq_getElem ha] at hz; exact Option.some.inj hz
  have h1 : existP b a 1 = true := existP_iff.2 (by omega)
  have e1 : wrK .i64 ((a : Int) + 1) = a + 1 := wrap64_id _ (by omega)
  rw [getMarkP_at hz]
  obtain ⟨x, hx⟩ : ∃ x : Int, (z.toNat : Int) = x := ⟨_, rfl⟩
  have hxb : 0 ≤ x ∧ x < 256 := by have := z.toNat_lt; omega
  have hwx : wrK .i64 x = x := wrap64_id _ (by omega)
  rw [hx]
  generalize hr : markAt b a x = r
  unfold markAt at hr
  cases hs : shortP x with
  | some m =>
   rw [hs] at hr
   simp only at hr
   subst hr
   refine Fn_of Tryz.func127 rfl rfl (by simp -implicitDefEqProofs -dsimp) rfl ?_; simp only [Tryz.f127]
   simp -implicitDefEqProofs -dsimp
   repeat' (first | with_reducible intro _ | with_reducible apply And.intro | (refine chkOk ?_; kernel_rfl) | (refine wpcall_d (iexist hb) ?_; simp -implicitDefEqProofs -dsimp [h1, ha, hz2, hx, hwx, hs, optF, e1]) | (refine wpcall_d (ishortMark hxb) ?_; simp -implicitDefEqProofs -dsimp [h1, ha, hz2, hx, hwx, hs, optF, e1]))
  | none =>
   rw [hs] at hr
   simp only at hr
   obtain ⟨f, w, hf, hc⟩ := formP_cases x
   rw [hf] at hr
   simp only at hr
   rcases hc with ⟨hf0, hn⟩ | ⟨hf3, hw, hn⟩ | ⟨hn, hw, hc⟩
   ·subst hf0
    rw [if_pos (.inl rfl)] at hr; subst hr
    have hk : kindP x = (0, w) := by simp -implicitDefEqProofs -dsimp [kindP, hf]
    refine Fn_of Tryz.func127 rfl rfl (by simp -implicitDefEqProofs -dsimp) rfl ?_; simp only [Tryz.f127]
    simp -implicitDefEqProofs -dsimp
    repeat' (first | with_reducible intro _ | with_reducible apply And.intro | (refine chkOk ?_; kernel_rfl) | (refine wpcall_d (iexist hb) ?_; simp -implicitDefEqProofs -dsimp [h1, ha, hz2, hx, hwx, hs, optF, e1, hk]) | (refine wpcall_d (ishortMark hxb) ?_; simp -implicitDefEqProofs -dsimp [h1, ha, hz2, hx, hwx, hs, optF, e1, hk]) | (refine wpcall_d (imarkForm hxb) ?_; simp -implicitDefEqProofs -dsimp [h1, ha, hz2, hx, hwx, hs, optF, e1, hk]))
   all_goals
    have hw2 := isW_iff.1 hw
    obtain ⟨w, rfl⟩ : ∃ n : Nat, w = n := ⟨w.toNat, by omega⟩
    by_cases hE : existP b (a + 1) w = true
    all_goals (try (have hE2 := existP_iff.1 hE))
   ·subst hf3
    have hk : kindP x = (3, (w : Int)) := by simp -implicitDefEqProofs -dsimp [kindP, hf]
    obtain ⟨l, hl⟩ : ∃ l, (b.drop (a + 1)).take w = l := ⟨_, rfl⟩
    have hll : l.length = w := by rw [← hl]; simp -implicitDefEqProofs -dsimp; omega
    have hT : ((a : Int) + 1 + w).toNat = a + 1 + w := by omega
    have hsl : List.drop (a + 1) (List.take (a + 1 + w) (List.map bv b)) = List.map bv l := by rw [← hl, List.drop_take, List.map_take, List.map_drop]; congr 1; omega
    have e2 : wrK .i64 ((a : Int) + 1 + w) = a + 1 + w := wrap64_id _ (by omega)
    have e3 : (0 : Int) ≤ a + 1 := by omega
    have e4 : (a : Int) + 1 ≤ a + 1 + w := by omega
    have e5 : (a : Int) + 1 + w ≤ b.length := by omega
    rw [if_neg (by simp -implicitDefEqProofs -dsimp [hE]), if_pos rfl] at hr
    simp only [Int.toNat_natCast, hl] at hr
    have hA := iargument_s (l := l) (by omega)
    rw [hll] at hA
    generalize signedP w (bigP l) = v at *
    by_cases hv : -1000000000000000 ≤ v ∧ v ≤ 1000000000000000
    ·have hd : (decide (-1000000000000000 ≤ v) && decide (v ≤ 1000000000000000)) = true := by simp -implicitDefEqProofs -dsimp [hv.1, hv.2]
     rw [hd] at hA
     rw [if_pos hv] at hr; subst hr
     refine Fn_of Tryz.func127 rfl rfl (by simp -implicitDefEqProofs -dsimp) rfl ?_; simp only [Tryz.f127]
     simp -implicitDefEqProofs -dsimp
     repeat' (first | with_reducible intro _ | with_reducible apply And.intro | (refine chkOk ?_; kernel_rfl) | (refine wpcall_d (iexist hb) ?_; simp -implicitDefEqProofs -dsimp [h1, ha, hz2, hx, hwx, hs, optF, e1, e2, e3, e4, e5, hk, hE, hT, hsl, hn.1, hn.2]) | (refine wpcall_d (ishortMark hxb) ?_; simp -implicitDefEqProofs -dsimp [h1, ha, hz2, hx, hwx, hs, optF, e1, e2, e3, e4, e5, hk, hE, hT, hsl, hn.1, hn.2]) | (refine wpcall_d (imarkForm hxb) ?_; simp -implicitDefEqProofs -dsimp [h1, ha, hz2, hx, hwx, hs, optF, e1, e2, e3, e4, e5, hk, hE, hT, hsl, hn.1, hn.2]) | (refine wpcall_d (iwithin) ?_; simp -implicitDefEqProofs -dsimp [h1, ha, hz2, hx, hwx, hs, optF, e1, e2, e3, e4, e5, hk, hE, hT, hsl, hn.1, hn.2]) | (refine wpcall_d (hA) ?_; simp -implicitDefEqProofs -dsimp [h1, ha, hz2, hx, hwx, hs, optF, e1, e2, e3, e4, e5, hk, hE, hT, hsl, hn.1, hn.2]))
    ·have hd : (decide (-1000000000000000 ≤ v) && decide (v ≤ 1000000000000000)) = false := by rw [Bool.eq_false_iff]; simp -implicitDefEqProofs -dsimp; omega
     rw [hd] at hA
     rw [if_neg hv] at hr; subst hr
     refine Fn_of Tryz.func127 rfl rfl (by simp -implicitDefEqProofs -dsimp) rfl ?_; simp only [Tryz.f127]
     simp -implicitDefEqProofs -dsimp
     repeat' (first | with_reducible intro _ | with_reducible apply And.intro | (refine chkOk ?_; kernel_rfl) | (refine wpcall_d (iexist hb) ?_; simp -implicitDefEqProofs -dsimp [h1, ha, hz2, hx, hwx, hs, optF, e1, e2, e3, e4, e5, hk, hE, hT, hsl, hn.1, hn.2]) | (refine wpcall_d (ishortMark hxb) ?_; simp -implicitDefEqProofs -dsimp [h1, ha, hz2, hx, hwx, hs, optF, e1, e2, e3, e4, e5, hk, hE, hT, hsl, hn.1, hn.2]) | (refine wpcall_d (imarkForm hxb) ?_; simp -implicitDefEqProofs -dsimp [h1, ha, hz2, hx, hwx, hs, optF, e1, e2, e3, e4, e5, hk, hE, hT, hsl, hn.1, hn.2]) | (refine wpcall_d (iwithin) ?_; simp -implicitDefEqProofs -dsimp [h1, ha, hz2, hx, hwx, hs, optF, e1, e2, e3, e4, e5, hk, hE, hT, hsl, hn.1, hn.2]) | (refine wpcall_d (hA) ?_; simp -implicitDefEqProofs -dsimp [h1, ha, hz2, hx, hwx, hs, optF, e1, e2, e3, e4, e5, hk, hE, hT, hsl, hn.1, hn.2]))
   ·subst hf3
    have hk : kindP x = (3, (w : Int)) := by simp -implicitDefEqProofs -dsimp [kindP, hf]
    have hE : existP b (a + 1) w = false := by simpa using hE
    rw [if_pos (.inr hE)] at hr; subst hr
    refine Fn_of Tryz.func127 rfl rfl (by simp -implicitDefEqProofs -dsimp) rfl ?_; simp only [Tryz.f127]
    simp -implicitDefEqProofs -dsimp
    repeat' (first | with_reducible intro _ | with_reducible apply And.intro | (refine chkOk ?_; kernel_rfl) | (refine wpcall_d (iexist hb) ?_; simp -implicitDefEqProofs -dsimp [h1, ha, hz2, hx, hwx, hs, optF, e1, hk, hE]) | (refine wpcall_d (ishortMark hxb) ?_; simp -implicitDefEqProofs -dsimp [h1, ha, hz2, hx, hwx, hs, optF, e1, hk, hE]) | (refine wpcall_d (imarkForm hxb) ?_; simp -implicitDefEqProofs -dsimp [h1, ha, hz2, hx, hwx, hs, optF, e1, hk, hE]))
   ·have hk : kindP x = (f, (w : Int)) := by unfold kindP; rw [hf, if_neg (by omega)]
    have hn' : (decide (208 ≤ x) && decide (x ≤ 211)) = false := by rw [Bool.eq_false_iff]; simp -implicitDefEqProofs -dsimp; omega
    have hf0 : f ≠ 0 := by omega
    obtain ⟨l, hl⟩ : ∃ l, (b.drop (a + 1)).take w = l := ⟨_, rfl⟩
    have hll : l.length = w := by rw [← hl]; simp -implicitDefEqProofs -dsimp; omega
    have hT : ((a : Int) + 1 + w).toNat = a + 1 + w := by omega
    have hsl : List.drop (a + 1) (List.take (a + 1 + w) (List.map bv b)) = List.map bv l := by rw [← hl, List.drop_take, List.map_take, List.map_drop]; congr 1; omega
    have e2 : wrK .i64 ((a : Int) + 1 + w) = a + 1 + w := wrap64_id _ (by omega)
    have e3 : (0 : Int) ≤ a + 1 := by omega
    have e4 : (a : Int) + 1 ≤ a + 1 + w := by omega
    have e5 : (a : Int) + 1 + w ≤ b.length := by omega
    rw [if_neg (by simp -implicitDefEqProofs -dsimp [hE, hf0]), if_neg (by omega)] at hr
    simp only [Int.toNat_natCast, hl] at hr
    have hA := iargument_u (l := l) (by omega)
    rcases hc with hc | ⟨hc, hc2⟩ | ⟨hc, hc2⟩ | ⟨hc, hc2, hc3⟩
    ·subst hc
     rw [if_pos rfl] at hr
     by_cases hv : bigP l ≤ 1000000000000000
     ·have hw' : wrK .i64 (bigP l) = bigP l := wrap64_id _ (by omega)
      have hd : decide (bigP l ≤ 1000000000000000) = true := by simp -implicitDefEqProofs -dsimp [hv]
      rw [hd, hw'] at hA
      rw [if_pos hv] at hr; subst hr
      refine Fn_of Tryz.func127 rfl rfl (by simp -implicitDefEqProofs -dsimp) rfl ?_; simp only [Tryz.f127]
      simp -implicitDefEqProofs -dsimp
      repeat' (first | with_reducible intro _ | with_reducible apply And.intro | (refine chkOk ?_; kernel_rfl) | (refine wpcall_d (iexist hb) ?_; simp -implicitDefEqProofs -dsimp [h1, ha, hz2, hx, hwx, hs, optF, e1, e2, e3, e4, e5, hk, hE, hT, hsl, hn']) | (refine wpcall_d (ishortMark hxb) ?_; simp -implicitDefEqProofs -dsimp [h1, ha, hz2, hx, hwx, hs, optF, e1, e2, e3, e4, e5, hk, hE, hT, hsl, hn']) | (refine wpcall_d (imarkForm hxb) ?_; simp -implicitDefEqProofs -dsimp [h1, ha, hz2, hx, hwx, hs, optF, e1, e2, e3, e4, e5, hk, hE, hT, hsl, hn']) | (refine wpcall_d (iwithin) ?_; simp -implicitDefEqProofs -dsimp [h1, ha, hz2, hx, hwx, hs, optF, e1, e2, e3, e4, e5, hk, hE, hT, hsl, hn']) | (refine wpcall_d (hA) ?_; simp -implicitDefEqProofs -dsimp [h1, ha, hz2, hx, hwx, hs, optF, e1, e2, e3, e4, e5, hk, hE, hT, hsl, hn']))
     ·have hd : decide (bigP l ≤ 1000000000000000) = false := by simp -implicitDefEqProofs -dsimp; omega
      rw [hd] at hA
      rw [if_neg hv] at hr; subst hr
      refine Fn_of Tryz.func127 rfl rfl (by simp -implicitDefEqProofs -dsimp) rfl ?_; simp only [Tryz.f127]
      simp -implicitDefEqProofs -dsimp
      repeat' (first | with_reducible intro _ | with_reducible apply And.intro | (refine chkOk ?_; kernel_rfl) | (refine wpcall_d (iexist hb) ?_; simp -implicitDefEqProofs -dsimp [h1, ha, hz2, hx, hwx, hs, optF, e1, e2, e3, e4, e5, hk, hE, hT, hsl, hn']) | (refine wpcall_d (ishortMark hxb) ?_; simp -implicitDefEqProofs -dsimp [h1, ha, hz2, hx, hwx, hs, optF, e1, e2, e3, e4, e5, hk, hE, hT, hsl, hn']) | (refine wpcall_d (imarkForm hxb) ?_; simp -implicitDefEqProofs -dsimp [h1, ha, hz2, hx, hwx, hs, optF, e1, e2, e3, e4, e5, hk, hE, hT, hsl, hn']) | (refine wpcall_d (iwithin) ?_; simp -implicitDefEqProofs -dsimp [h1, ha, hz2, hx, hwx, hs, optF, e1, e2, e3, e4, e5, hk, hE, hT, hsl, hn']) | (refine wpcall_d (hA) ?_; simp -implicitDefEqProofs -dsimp [h1, ha, hz2, hx, hwx, hs, optF, e1, e2, e3, e4, e5, hk, hE, hT, hsl, hn']))
    ·subst hc
     obtain rfl : w = 2 := by omega
     obtain ⟨y, t, hlt, hbt⟩ := bigP_two hll
     have hyt : b[a + 1]? = some y ∧ b[a + 2]? = some t := by
      have h5 : l[0]? = some y ∧ l[1]? = some t := by rw [hlt]; exact ⟨rfl, rfl⟩
      rw [← hl] at h5; simpa [List.getElem?_take, List.getElem?_drop, Nat.add_assoc] using h5
     have g1 : a + 1 < b.length := by omega
     have g2 : a + 2 < b.length := by omega
     have g3 : b[a + 1] = y := by rw [List.getElem?_eq_getElem g1] at hyt; exact Option.some.inj hyt.1
     have g4 : b[a + 2] = t := by rw [List.getElem?_eq_getElem g2] at hyt; exact Option.some.inj hyt.2
     have g5 : wrK .i64 ((a : Int) + 2) = a + 2 := wrap64_id _ (by omega)
     have g6 : (0 : Int) ≤ a + 2 := by omega
     have g9 : ((a : Int) + 2).toNat = a + 2 := by omega
     have g7 : (a : Int) + 1 < b.length := by omega
     have g8 : (a : Int) + 2 < b.length := by omega
     rw [hl, hbt] at hr
     have hyl := y.toNat_lt
     have htl := t.toNat_lt
     rw [if_neg (by omega), if_pos rfl] at hr
     have e2 : wrK .i64 ((a : Int) + 1 + 2) = a + 1 + 2 := wrap64_id _ (by omega)
     have e4 : (a : Int) + 1 ≤ a + 1 + 2 := by omega
     have e5 : (a : Int) + 1 + 2 ≤ b.length := by omega
     have hE : existP b (a + 1) 2 = true := hE
     have hk : kindP x = (5, 2) := hk
     have hT : ((a : Int) + 1 + 2).toNat = a + 1 + 2 := by omega
     generalize decide (bigP l ≤ 1000000000000000) = ok at hA
     by_cases hy1 : y.toNat = 1
     ·have hy1' : (y.toNat : Int) = 1 := by omega
      by_cases ht2 : t.toNat ≤ 2
      ·have ht2' : ¬ (2 < (t.toNat : Int)) := by omega
       have hz3 : ((256 * y.toNat + t.toNat : Nat) : Int) - 256 = t.toNat := by omega
       rw [if_pos (by omega), hz3] at hr; subst hr
       refine Fn_of Tryz.func127 rfl rfl (by simp -implicitDefEqProofs -dsimp) rfl ?_; simp only [Tryz.f127]
       simp -implicitDefEqProofs -dsimp
       repeat' (first | with_reducible intro _ | with_reducible apply And.intro | (refine chkOk ?_; kernel_rfl) | (refine wpcall_d (iexist hb) ?_; simp -implicitDefEqProofs -dsimp [h1, ha, hz2, hx, hwx, hs, optF, e1, e2, e3, e4, e5, hk, hE, hT, hsl, hn', g1, g2, g3, g4, g5, g6, g9, g7, g8, hy1', ht2']) | (refine wpcall_d (ishortMark hxb) ?_; simp -implicitDefEqProofs -dsimp [h1, ha, hz2, hx, hwx, hs, optF, e1, e2, e3, e4, e5, hk, hE, hT, hsl, hn', g1, g2, g3, g4, g5, g6, g9, g7, g8, hy1', ht2']) | (refine wpcall_d (imarkForm hxb) ?_; simp -implicitDefEqProofs -dsimp [h1, ha, hz2, hx, hwx, hs, optF, e1, e2, e3, e4, e5, hk, hE, hT, hsl, hn', g1, g2, g3, g4, g5, g6, g9, g7, g8, hy1', ht2']) | (refine wpcall_d (iwithin) ?_; simp -implicitDefEqProofs -dsimp [h1, ha, hz2, hx, hwx, hs, optF, e1, e2, e3, e4, e5, hk, hE, hT, hsl, hn', g1, g2, g3, g4, g5, g6, g9, g7, g8, hy1', ht2']) | (refine wpcall_d (hA) ?_; simp -implicitDefEqProofs -dsimp [h1, ha, hz2, hx, hwx, hs, optF, e1, e2, e3, e4, e5, hk, hE, hT, hsl, hn', g1, g2, g3, g4, g5, g6, g9, g7, g8, hy1', ht2']))
      ·have ht2' : 2 < (t.toNat : Int) := by omega
       rw [if_neg (by omega)] at hr; subst hr
       refine Fn_of Tryz.func127 rfl rfl (by simp -implicitDefEqProofs -dsimp) rfl ?_; simp only [Tryz.f127]
       simp -implicitDefEqProofs -dsimp
       repeat' (first | with_reducible intro _ | with_reducible apply And.intro | (refine chkOk ?_; kernel_rfl) | (refine wpcall_d (iexist hb) ?_; simp -implicitDefEqProofs -dsimp [h1, ha, hz2, hx, hwx, hs, optF, e1, e2, e3, e4, e5, hk, hE, hT, hsl, hn', g1, g2, g3, g4, g5, g6, g9, g7, g8, hy1', ht2']) | (refine wpcall_d (ishortMark hxb) ?_; simp -implicitDefEqProofs -dsimp [h1, ha, hz2, hx, hwx, hs, optF, e1, e2, e3, e4, e5, hk, hE, hT, hsl, hn', g1, g2, g3, g4, g5, g6, g9, g7, g8, hy1', ht2']) | (refine wpcall_d (imarkForm hxb) ?_; simp -implicitDefEqProofs -dsimp [h1, ha, hz2, hx, hwx, hs, optF, e1, e2, e3, e4, e5, hk, hE, hT, hsl, hn', g1, g2, g3, g4, g5, g6, g9, g7, g8, hy1', ht2']) | (refine wpcall_d (iwithin) ?_; simp -implicitDefEqProofs -dsimp [h1, ha, hz2, hx, hwx, hs, optF, e1, e2, e3, e4, e5, hk, hE, hT, hsl, hn', g1, g2, g3, g4, g5, g6, g9, g7, g8, hy1', ht2']) | (refine wpcall_d (hA) ?_; simp -implicitDefEqProofs -dsimp [h1, ha, hz2, hx, hwx, hs, optF, e1, e2, e3, e4, e5, hk, hE, hT, hsl, hn', g1, g2, g3, g4, g5, g6, g9, g7, g8, hy1', ht2']))
     ·have hy1' : ¬ ((y.toNat : Int) = 1) := by omega
      rw [if_neg (by omega)] at hr; subst hr
      refine Fn_of Tryz.func127 rfl rfl (by simp -implicitDefEqProofs -dsimp) rfl ?_; simp only [Tryz.f127]
      simp -implicitDefEqProofs -dsimp
      repeat' (first | with_reducible intro _ | with_reducible apply And.intro | (refine chkOk ?_; kernel_rfl) | (refine wpcall_d (iexist hb) ?_; simp -implicitDefEqProofs -dsimp [h1, ha, hz2, hx, hwx, hs, optF, e1, e2, e3, e4, e5, hk, hE, hT, hsl, hn', g1, g2, g3, g4, g5, g6, g9, g7, g8, hy1']) | (refine wpcall_d (ishortMark hxb) ?_; simp -implicitDefEqProofs -dsimp [h1, ha, hz2, hx, hwx, hs, optF, e1, e2, e3, e4, e5, hk, hE, hT, hsl, hn', g1, g2, g3, g4, g5, g6, g9, g7, g8, hy1']) | (refine wpcall_d (imarkForm hxb) ?_; simp -implicitDefEqProofs -dsimp [h1, ha, hz2, hx, hwx, hs, optF, e1, e2, e3, e4, e5, hk, hE, hT, hsl, hn', g1, g2, g3, g4, g5, g6, g9, g7, g8, hy1']) | (refine wpcall_d (iwithin) ?_; simp -implicitDefEqProofs -dsimp [h1, ha, hz2, hx, hwx, hs, optF, e1, e2, e3, e4, e5, hk, hE, hT, hsl, hn', g1, g2, g3, g4, g5, g6, g9, g7, g8, hy1']) | (refine wpcall_d (hA) ?_; simp -implicitDefEqProofs -dsimp [h1, ha, hz2, hx, hwx, hs, optF, e1, e2, e3, e4, e5, hk, hE, hT, hsl, hn', g1, g2, g3, g4, g5, g6, g9, g7, g8, hy1']))
    ·subst hc
     obtain rfl : w = 4 := by omega
     have hbl := bigP_le hll (by omega)
     have hw' : wrK .i64 (bigP l) = bigP l := wrap64_id _ (by omega)
     rw [hw'] at hA
     generalize decide (bigP l ≤ 1000000000000000) = ok at hA
     rw [if_neg (by omega), if_neg (by omega), if_pos rfl, hl] at hr
     have e2 : wrK .i64 ((a : Int) + 1 + 4) = a + 1 + 4 := wrap64_id _ (by omega)
     have e4 : (a : Int) + 1 ≤ a + 1 + 4 := by omega
     have e5 : (a : Int) + 1 + 4 ≤ b.length := by omega
     have hE : existP b (a + 1) 4 = true := hE
     have hk : kindP x = (4, 4) := hk
     have hT : ((a : Int) + 1 + 4).toNat = a + 1 + 4 := by omega
     generalize bigP l = n at *
     cases hb2 : bitsFltP n with
     | some p =>
      rw [hb2] at hr; simp only at hr; subst hr
      refine Fn_of Tryz.func127 rfl rfl (by simp -implicitDefEqProofs -dsimp) rfl ?_; simp only [Tryz.f127]
      simp -implicitDefEqProofs -dsimp
      repeat' (first | with_reducible intro _ | with_reducible apply And.intro | (refine chkOk ?_; kernel_rfl) | (refine wpcall_d (iexist hb) ?_; simp -implicitDefEqProofs -dsimp [h1, ha, hz2, hx, hwx, hs, optF, e1, e2, e3, e4, e5, hk, hE, hT, hsl, hn', hb2]) | (refine wpcall_d (ishortMark hxb) ?_; simp -implicitDefEqProofs -dsimp [h1, ha, hz2, hx, hwx, hs, optF, e1, e2, e3, e4, e5, hk, hE, hT, hsl, hn', hb2]) | (refine wpcall_d (imarkForm hxb) ?_; simp -implicitDefEqProofs -dsimp [h1, ha, hz2, hx, hwx, hs, optF, e1, e2, e3, e4, e5, hk, hE, hT, hsl, hn', hb2]) | (refine wpcall_d (iwithin) ?_; simp -implicitDefEqProofs -dsimp [h1, ha, hz2, hx, hwx, hs, optF, e1, e2, e3, e4, e5, hk, hE, hT, hsl, hn', hb2]) | (refine wpcall_d (hA) ?_; simp -implicitDefEqProofs -dsimp [h1, ha, hz2, hx, hwx, hs, optF, e1, e2, e3, e4, e5, hk, hE, hT, hsl, hn', hb2]) | (refine wpcall_d (iBitsFlt) ?_; simp -implicitDefEqProofs -dsimp [h1, ha, hz2, hx, hwx, hs, optF, e1, e2, e3, e4, e5, hk, hE, hT, hsl, hn', hb2]) | (refine wpcall_d (iFltBits) ?_; simp -implicitDefEqProofs -dsimp [h1, ha, hz2, hx, hwx, hs, optF, e1, e2, e3, e4, e5, hk, hE, hT, hsl, hn', hb2]))
     | none =>
      rw [hb2] at hr; simp only at hr; subst hr
      refine Fn_of Tryz.func127 rfl rfl (by simp -implicitDefEqProofs -dsimp) rfl ?_; simp only [Tryz.f127]
      simp -implicitDefEqProofs -dsimp
      repeat' (first | with_reducible intro _ | with_reducible apply And.intro | (refine chkOk ?_; kernel_rfl) | (refine wpcall_d (iexist hb) ?_; simp -implicitDefEqProofs -dsimp [h1, ha, hz2, hx, hwx, hs, optF, e1, e2, e3, e4, e5, hk, hE, hT, hsl, hn', hb2]) | (refine wpcall_d (ishortMark hxb) ?_; simp -implicitDefEqProofs -dsimp [h1, ha, hz2, hx, hwx, hs, optF, e1, e2, e3, e4, e5, hk, hE, hT, hsl, hn', hb2]) | (refine wpcall_d (imarkForm hxb) ?_; simp -implicitDefEqProofs -dsimp [h1, ha, hz2, hx, hwx, hs, optF, e1, e2, e3, e4, e5, hk, hE, hT, hsl, hn', hb2]) | (refine wpcall_d (iwithin) ?_; simp -implicitDefEqProofs -dsimp [h1, ha, hz2, hx, hwx, hs, optF, e1, e2, e3, e4, e5, hk, hE, hT, hsl, hn', hb2]) | (refine wpcall_d (hA) ?_; simp -implicitDefEqProofs -dsimp [h1, ha, hz2, hx, hwx, hs, optF, e1, e2, e3, e4, e5, hk, hE, hT, hsl, hn', hb2]) | (refine wpcall_d (iBitsFlt) ?_; simp -implicitDefEqProofs -dsimp [h1, ha, hz2, hx, hwx, hs, optF, e1, e2, e3, e4, e5, hk, hE, hT, hsl, hn', hb2]) | (refine wpcall_d (iFltBits) ?_; simp -implicitDefEqProofs -dsimp [h1, ha, hz2, hx, hwx, hs, optF, e1, e2, e3, e4, e5, hk, hE, hT, hsl, hn', hb2]))
    ·have hbl := bigP_le hll (by omega)
     have hw' : wrK .i64 (bigP l) = bigP l := wrap64_id _ (by omega)
     rw [hw'] at hA
     generalize decide (bigP l ≤ 1000000000000000) = ok at hA
     have f3 : f ≠ 3 := by omega
     have f4 : f ≠ 4 := by omega
     have f5 : f ≠ 5 := by omega
     rw [if_neg f3, if_neg f5, if_neg f4] at hr
     generalize bigP l = n at *
     by_cases hv : n ≤ 65535
     ·have hv' : ¬ (65535 < (n : Int)) := by omega
      rw [if_pos hv] at hr; subst hr
      refine Fn_of Tryz.func127 rfl rfl (by simp -implicitDefEqProofs -dsimp) rfl ?_; simp only [Tryz.f127]
      simp -implicitDefEqProofs -dsimp
      repeat' (first | with_reducible intro _ | with_reducible apply And.intro | (refine chkOk ?_; kernel_rfl) | (refine wpcall_d (iexist hb) ?_; simp -implicitDefEqProofs -dsimp [h1, ha, hz2, hx, hwx, hs, optF, e1, e2, e3, e4, e5, hk, hE, hT, hsl, hn', hf0, f3, f4, f5, hv']) | (refine wpcall_d (ishortMark hxb) ?_; simp -implicitDefEqProofs -dsimp [h1, ha, hz2, hx, hwx, hs, optF, e1, e2, e3, e4, e5, hk, hE, hT, hsl, hn', hf0, f3, f4, f5, hv']) | (refine wpcall_d (imarkForm hxb) ?_; simp -implicitDefEqProofs -dsimp [h1, ha, hz2, hx, hwx, hs, optF, e1, e2, e3, e4, e5, hk, hE, hT, hsl, hn', hf0, f3, f4, f5, hv']) | (refine wpcall_d (iwithin) ?_; simp -implicitDefEqProofs -dsimp [h1, ha, hz2, hx, hwx, hs, optF, e1, e2, e3, e4, e5, hk, hE, hT, hsl, hn', hf0, f3, f4, f5, hv']) | (refine wpcall_d (hA) ?_; simp -implicitDefEqProofs -dsimp [h1, ha, hz2, hx, hwx, hs, optF, e1, e2, e3, e4, e5, hk, hE, hT, hsl, hn', hf0, f3, f4, f5, hv']))
     ·have hv' : 65535 < (n : Int) := by omega
      rw [if_neg hv] at hr; subst hr
      refine Fn_of Tryz.func127 rfl rfl (by simp -implicitDefEqProofs -dsimp) rfl ?_; simp only [Tryz.f127]
      simp -implicitDefEqProofs -dsimp
      repeat' (first | with_reducible intro _ | with_reducible apply And.intro | (refine chkOk ?_; kernel_rfl) | (refine wpcall_d (iexist hb) ?_; simp -implicitDefEqProofs -dsimp [h1, ha, hz2, hx, hwx, hs, optF, e1, e2, e3, e4, e5, hk, hE, hT, hsl, hn', hf0, f3, f4, f5, hv']) | (refine wpcall_d (ishortMark hxb) ?_; simp -implicitDefEqProofs -dsimp [h1, ha, hz2, hx, hwx, hs, optF, e1, e2, e3, e4, e5, hk, hE, hT, hsl, hn', hf0, f3, f4, f5, hv']) | (refine wpcall_d (imarkForm hxb) ?_; simp -implicitDefEqProofs -dsimp [h1, ha, hz2, hx, hwx, hs, optF, e1, e2, e3, e4, e5, hk, hE, hT, hsl, hn', hf0, f3, f4, f5, hv']) | (refine wpcall_d (iwithin) ?_; simp -implicitDefEqProofs -dsimp [h1, ha, hz2, hx, hwx, hs, optF, e1, e2, e3, e4, e5, hk, hE, hT, hsl, hn', hf0, f3, f4, f5, hv']) | (refine wpcall_d (hA) ?_; simp -implicitDefEqProofs -dsimp [h1, ha, hz2, hx, hwx, hs, optF, e1, e2, e3, e4, e5, hk, hE, hT, hsl, hn', hf0, f3, f4, f5, hv']))
   ·have hk : kindP x = (f, (w : Int)) := by unfold kindP; rw [hf, if_neg (by omega)]
    have hf0 : f ≠ 0 := by omega
    have hE : existP b (a + 1) w = false := by simpa using hE
    rw [if_pos (.inr hE)] at hr; subst hr
    refine Fn_of Tryz.func127 rfl rfl (by simp -implicitDefEqProofs -dsimp) rfl ?_; simp only [Tryz.f127]
    simp -implicitDefEqProofs -dsimp
    repeat' (first | with_reducible intro _ | with_reducible apply And.intro | (refine chkOk ?_; kernel_rfl) | (refine wpcall_d (iexist hb) ?_; simp -implicitDefEqProofs -dsimp [h1, ha, hz2, hx, hwx, hs, optF, e1, hk, hE, hf0]) | (refine wpcall_d (ishortMark hxb) ?_; simp -implicitDefEqProofs -dsimp [h1, ha, hz2, hx, hwx, hs, optF, e1, hk, hE, hf0]) | (refine wpcall_d (imarkForm hxb) ?_; simp -implicitDefEqProofs -dsimp [h1, ha, hz2, hx, hwx, hs, optF, e1, hk, hE, hf0]))
 ·rw [getMarkP_no hat]
  have h1 : existP b at_ 1 = false := by rw [Bool.eq_false_iff]; intro h; have := existP_iff.1 h; omega
  refine Fn_of Tryz.func127 rfl rfl (by simp -implicitDefEqProofs -dsimp) rfl ?_; simp only [Tryz.f127]
  simp -implicitDefEqProofs -dsimp
  repeat' (first | with_reducible intro _ | with_reducible apply And.intro | (refine chkOk ?_; kernel_rfl) | (refine wpcall_d (iexist hb) ?_; simp -implicitDefEqProofs -dsimp [h1]))
end Go.Proofs.YtlfblkekbcfjpaaGreatDoor
