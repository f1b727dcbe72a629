/- Part of a proof: contracts and plain laws. -/
import Derived.Test.YtlfblkekbcfjpaaGreatDoorZ30
import Derived.Test.YtlfblkekbcfjpaaGreatDoorZ29
set_option linter.unusedVariables false
set_option linter.unusedSimpArgs false
namespace Go.Proofs.YtlfblkekbcfjpaaGreatDoor
open Go
set_option maxRecDepth 100000
set_option maxHeartbeats 2000000
def rAt (l : List UInt8) (a : Nat) : Nat × Nat := match getP (l.drop a) with | some p => (p.1, a + p.2) | none => (0, 0)
theorem decodeL_w4 (l : List UInt8) : (Lib.decodeL l).2 ≤ 4 := by
 rw [Lib.decodeL_N]; unfold Lib.decodeN
 repeat' split
 all_goals (dsimp only; omega)
theorem irunAt {l : List UInt8} {a : Nat} (hl : l.length ≤ 1099511627776) : Fn Tryz.prog 148 [T l, I a] [.un, .un] [I (rAt l a).1, I (rAt l a).2] := by
 have hL : wrK .i64 ((l.length : Int) - 1) = l.length - 1 := wrap64_id _ (by omega)
 by_cases ha : a < l.length
 ·have h1 : (a : Int) ≤ l.length - 1 := by omega
  have h2 : (a : Int) ≤ l.length := by omega
  have hD := lDecode (s := ⟨(l.drop a).toArray⟩)
  have hne : l.drop a ≠ [] := fun h => by have := congrArg List.length h; simp at this; omega
  have hdg : Lib.decodeGo (ByteArray.mk (l.drop a).toArray) = Lib.decodeL (l.drop a) := by
   unfold Lib.decodeGo; rw [if_neg (by simp -implicitDefEqProofs -dsimp [ByteArray.size]; omega)]; rfl
  rw [hdg] at hD
  have hw := Lib.decodeL_width (l.drop a)
  have hru := Lib.decodeL_rune (l.drop a)
  have hg : getP (l.drop a) = if Lib.decodeL (l.drop a) = (65533, 1) then none else some (Lib.decodeL (l.drop a)) := by unfold getP; simp -implicitDefEqProofs -dsimp [hne]
  unfold rAt
  rw [hg]
  have hwl := decodeL_w4 (l.drop a)
  generalize Lib.decodeL (l.drop a) = d at *
  obtain ⟨r, w⟩ := d
  simp only at hw hru hD hwl
  have e1 : wrK .i64 (r : Int) = r := wrap64_id _ (by omega)
  have e2 : wrK .i64 ((a : Int) + w) = a + w := wrap64_id _ (by omega)
  by_cases hb : r = 65533 ∧ w = 1
  ·obtain ⟨rfl, rfl⟩ := hb
   simp only [if_true]
   refine Fn_of Tryz.func148 rfl rfl (by simp -implicitDefEqProofs -dsimp) rfl ?_; simp only [Tryz.f148]
   simp -implicitDefEqProofs -dsimp [hL, h1, h2, ha]; repeat' (first | with_reducible intro _ | with_reducible apply And.intro | (refine chkOk ?_; kernel_rfl) | (refine wpcall_d (iwithin) ?_; simp -implicitDefEqProofs -dsimp [hL, h1, h2, ha]) | (refine wpcall_d (hD) ?_; simp -implicitDefEqProofs -dsimp [hL, h1, h2, ha]))
  ·rw [if_neg (by simpa using hb)]
   simp only
   by_cases hr : r = 65533
   ·subst hr
    have hw2 : ¬ (w : Int) ≤ 1 := by omega
    refine Fn_of Tryz.func148 rfl rfl (by simp -implicitDefEqProofs -dsimp) rfl ?_; simp only [Tryz.f148]
    simp -implicitDefEqProofs -dsimp [hL, h1, h2, ha, hw2, e2]; repeat' (first | with_reducible intro _ | with_reducible apply And.intro | (refine chkOk ?_; kernel_rfl) | (refine wpcall_d (iwithin) ?_; simp -implicitDefEqProofs -dsimp [hL, h1, h2, ha, hw2, e2]) | (refine wpcall_d (hD) ?_; simp -implicitDefEqProofs -dsimp [hL, h1, h2, ha, hw2, e2]))
   ·have hr2 : ¬ (r : Int) = 65533 := by omega
    refine Fn_of Tryz.func148 rfl rfl (by simp -implicitDefEqProofs -dsimp) rfl ?_; simp only [Tryz.f148]
    simp -implicitDefEqProofs -dsimp [hL, h1, h2, ha, hr2, e1, e2]; repeat' (first | with_reducible intro _ | with_reducible apply And.intro | (refine chkOk ?_; kernel_rfl) | (refine wpcall_d (iwithin) ?_; simp -implicitDefEqProofs -dsimp [hL, h1, h2, ha, hr2, e1, e2]) | (refine wpcall_d (hD) ?_; simp -implicitDefEqProofs -dsimp [hL, h1, h2, ha, hr2, e1, e2]))
 ·have h1 : ¬ (a : Int) ≤ l.length - 1 := by omega
  have hz : rAt l a = (0, 0) := by unfold rAt; rw [List.drop_of_length_le (by omega)]; rfl
  rw [hz]
  refine Fn_of Tryz.func148 rfl rfl (by simp -implicitDefEqProofs -dsimp) rfl ?_; simp only [Tryz.f148]
  simp -implicitDefEqProofs -dsimp [hL, h1, ha]; repeat' (first | with_reducible intro _ | with_reducible apply And.intro | (refine chkOk ?_; kernel_rfl) | (refine wpcall_d (iwithin) ?_; simp -implicitDefEqProofs -dsimp [hL, h1, ha]))
theorem hexI_eq (x : UInt8) : Lib.indexByte hexDs x = match lowV x.toNat with | some d => (d : Int) | none => -1 := ix_hex x
theorem low_len (t : List UInt8) : (Lib.toLowerD t).length ≤ 4 * t.length := by
 suffices h : ∀ n t, (Lib.mapGoD Lib.toLowerU n t).length ≤ 4 * n from h _ _
 intro n
 induction n with
 | zero => intro t; simp -implicitDefEqProofs -dsimp [Lib.mapGoD]
 | succ n ih =>
  intro t
  unfold Lib.mapGoD
  split
  ·simp -implicitDefEqProofs -dsimp
  ·rw [List.length_append]
   have h1 := ih (t.drop (Lib.decodeL t).2)
   have h2 : (if 0 ≤ Lib.toLowerU (Lib.decodeL t).1 then Lib.encodeRune (Lib.toLowerU (Lib.decodeL t).1) else []).length ≤ 4 := by
    split
    ·unfold Lib.encodeRune; rw [List.length_map]; exact (Lib.encodeRuneZ_length _).2
    ·simp -implicitDefEqProofs -dsimp
   omega
theorem lowV_lt {x d : Nat} (h : lowV x = some d) : d < 16 := by
 unfold lowV at h
 repeat' split at h
 all_goals first | cases h; omega | cases h
theorem lowN_ex : ∀ (t : List UInt8) (n : Nat), lowN t n = none → ∃ y ∈ t, lowV y.toNat = none
 | [], n, h => by cases h
 | x :: t, n, h => by
  unfold lowN at h
  cases hx : lowV x.toNat with
  | none => exact ⟨x, List.mem_cons_self .., hx⟩
  | some d =>
   rw [hx] at h
   obtain ⟨y, hy, h2⟩ := lowN_ex t _ h
   exact ⟨y, List.mem_cons_of_mem _ hy, h2⟩
theorem hexN_all : ∀ (t : List UInt8) (n m : Nat), hexN t n = some m → ∀ x ∈ t, x.toNat < 128
 | [], n, m, h, x, hx => by cases hx
 | y :: t, n, m, h, x, hx => by
  unfold hexN at h
  cases hy : hexV y.toNat with
  | none => rw [hy] at h; cases h
  | some d =>
   rw [hy] at h
   rcases List.mem_cons.1 hx with rfl | hx
   ·rcases Nat.lt_or_ge x.toNat 128 with h1 | h1
    ·exact h1
    ·rw [hexV_high h1] at hy; cases hy
   ·exact hexN_all t _ _ h x hx
theorem lDigit {x : UInt8} : Fn Tryz.prog 145 [T hexDs, A8 x.toNat] [.un, .un] [I (match lowV x.toNat with | some d => (d : Int) | none => -1)] := by
 have h := lIndexByte (s := ⟨hexDs.toArray⟩) (c := x.toNat)
 rw [show Lib.indexByte (ByteArray.mk hexDs.toArray).data.toList ((x.toNat : Int).toNat.toUInt8) = match lowV x.toNat with | some d => (d : Int) | none => -1 from by rw [← hexI_eq]; congr 1; simp] at h
 exact h
theorem iReadFour {l : List UInt8} {a : Nat} (hl : l.length ≤ 1099511627776) (ha : a ≤ 1099511627780) : Fn Tryz.prog 201 [T l, I a] [.un, .un] [I ((fourP l a).getD 0), B (fourP l a).isSome] := by
 have w1 : wrK .i64 ((l.length : Int) - 4) = l.length - 4 := wrap64_id _ (by omega)
 by_cases hlt : a + 4 ≤ l.length
 ·have a1 : (a : Int) ≤ l.length - 4 := by omega
  have a2 : (a : Int) ≤ a + 4 := by omega
  have a3 : (a : Int) + 4 ≤ l.length := by omega
  have a4 : ((a : Int) + 4).toNat = a + 4 := by omega
  have w2 : wrK .i64 ((a : Int) + 4) = a + 4 := wrap64_id _ (by omega)
  have hsl : (l.take (a + 4)).drop a = (l.drop a).take 4 := by rw [List.drop_take]; congr 1; omega
  generalize hR : fourP l a = R
  unfold fourP at hR
  rw [if_pos hlt, ← lowN_lower] at hR
  have htl : ((l.drop a).take 4).length = 4 := by simp -implicitDefEqProofs -dsimp; omega
  have hTL := lToLower (s := ⟨((l.drop a).take 4).toArray⟩) (by simp -implicitDefEqProofs -dsimp [ByteArray.size]; omega)
  have hll := low_len ((l.drop a).take 4)
  rw [show (ByteArray.mk ((l.drop a).take 4).toArray).data.toList = (l.drop a).take 4 by simp] at hTL
  have hRm : ∀ m, R = some m → Lib.toLowerD ((l.drop a).take 4) = ((l.drop a).take 4).map Lib.lowerB := fun m hm => by
   rw [hm, lowN_lower] at hR
   exact Lib.toLowerD_ascii _ (hexN_all _ _ _ hR)
  generalize (l.drop a).take 4 = t4 at *
  generalize Lib.toLowerD t4 = t at *
  have htb : t.length ≤ 16 := by omega
  have htc : t.length ≤ 1099511627776 := by omega
  cases R with
  | some m =>
   have ht4 : t.length = 4 := by rw [hRm m rfl]; simpa using htl
   clear hRm hll
   refine Fn_of Tryz.func201 rfl rfl (by simp -implicitDefEqProofs -dsimp) rfl ?_; simp only [Tryz.f201]
   simp -implicitDefEqProofs -dsimp [w1, a1, a2, a3, a4, w2, hsl, htc]; repeat' (first | with_reducible intro _ | with_reducible apply And.intro | (refine chkOk ?_; kernel_rfl) | (refine wpcall_d (iwithin) ?_; simp -implicitDefEqProofs -dsimp [w1, a1, a2, a3, a4, w2, hsl, htc]) | (refine wpcall_d (hTL) ?_; simp -implicitDefEqProofs -dsimp [w1, a1, a2, a3, a4, w2, hsl, htc]))
   refine WL_loop (fun p : Nat × Nat => [(4, I 0), (5, B false), (6, I p.2), (22, Y t), (23, I t.length), (24, I p.1)]) (fun p => 4 - p.1) (fun p => p.1 ≤ 4 ∧ p.2 < 16 ^ p.1 ∧ lowN (t.drop p.1) p.2 = some m) (0, 0) ⟨by omega, by simp, by simpa using hR⟩ ?_ ?_
   ·simp -implicitDefEqProofs -dsimp
   ·clear hR
    rintro ⟨k, n⟩ ⟨hk, hn, hR⟩
    simp only at hk hn hR ⊢
    have hn2 : n < 65536 := Nat.lt_of_lt_of_le hn (Nat.pow_le_pow_right (n := 16) (by omega) hk)
    by_cases hk4 : k < t.length
    ·obtain ⟨x, hx⟩ : ∃ x, t[k]? = some x := ⟨_, List.getElem?_eq_getElem hk4⟩
     have hx2 : t[k] = x := by rw [List.getElem?_eq_getElem hk4] at hx; exact Option.some.inj hx
     have hD := @lDigit x
     rw [List.drop_eq_getElem_cons hk4, hx2] at hR; unfold lowN at hR
     cases hv : lowV x.toNat with
     | none => rw [hv] at hR; cases hR
     | some d =>
      rw [hv] at hR hD; simp only at hR hD
      have hd := lowV_lt hv
      have k1 : (k : Int) < t.length := by omega
      have k6 : wrK .i64 ((k : Int) + 1) = k + 1 := wrap64_id _ (by omega)
      have k7 : wrK .i64 (16 * (n : Int)) = 16 * n := wrap64_id _ (by omega)
      have k8 : wrK .i64 (16 * (n : Int) + d) = 16 * n + d := wrap64_id _ (by omega)
      have k9 : ¬ (d : Int) < 0 := by omega
      simp -implicitDefEqProofs -dsimp [-head_L, -endOk, k1, hk4, hx2]
      refine wpcall_d hD ?_; simp -implicitDefEqProofs -dsimp [-head_L, -endOk, k6, k7, k8, k9]
      refine ⟨k + 1, 16 * n + d, ⟨by omega, ?_, hR⟩, by omega, ?_⟩
      ·rw [Nat.pow_succ]; omega
      ·simp -implicitDefEqProofs -dsimp
    ·obtain rfl : k = 4 := by omega
     rw [List.drop_of_length_le (by omega)] at hR
     cases hR
     have k1 : ¬ (4 : Int) < t.length := by omega
     simp -implicitDefEqProofs -dsimp [-head_L, k1]
  | none =>
   have hex := lowN_ex _ _ hR
   refine Fn_of Tryz.func201 rfl rfl (by simp -implicitDefEqProofs -dsimp) rfl ?_; simp only [Tryz.f201]
   simp -implicitDefEqProofs -dsimp [w1, a1, a2, a3, a4, w2, hsl, htc]; repeat' (first | with_reducible intro _ | with_reducible apply And.intro | (refine chkOk ?_; kernel_rfl) | (refine wpcall_d (iwithin) ?_; simp -implicitDefEqProofs -dsimp [w1, a1, a2, a3, a4, w2, hsl, htc]) | (refine wpcall_d (hTL) ?_; simp -implicitDefEqProofs -dsimp [w1, a1, a2, a3, a4, w2, hsl, htc]))
   refine WL_loop (fun p : Nat × Int => [(4, I 0), (5, B false), (6, I p.2), (22, Y t), (23, I t.length), (24, I p.1)]) (fun p => t.length - p.1) (fun p => ∃ y ∈ t.drop p.1, lowV y.toNat = none) (0, 0) (by simpa using hex) ?_ ?_
   ·simp -implicitDefEqProofs -dsimp
   ·rintro ⟨k, n⟩ ⟨y, hy, hyn⟩
    simp only at hy ⊢
    have hk4 : k < t.length := by
     rcases Nat.lt_or_ge k t.length with h | h
     ·exact h
     ·rw [List.drop_of_length_le h] at hy; cases hy
    obtain ⟨x, hx⟩ : ∃ x, t[k]? = some x := ⟨_, List.getElem?_eq_getElem hk4⟩
    have hx2 : t[k] = x := by rw [List.getElem?_eq_getElem hk4] at hx; exact Option.some.inj hx
    have hD := @lDigit x
    rw [List.drop_eq_getElem_cons hk4, hx2] at hy
    have k1 : (k : Int) < t.length := by omega
    have k6 : wrK .i64 ((k : Int) + 1) = k + 1 := wrap64_id _ (by omega)
    cases hv : lowV x.toNat with
    | none =>
     rw [hv] at hD; simp only at hD
     simp -implicitDefEqProofs -dsimp [-head_L, k1, hk4, hx2]
     refine wpcall_d hD ?_; simp -implicitDefEqProofs -dsimp [-head_L]
    | some d =>
     rw [hv] at hD; simp only at hD
     have k9 : ¬ (d : Int) < 0 := by omega
     have hy2 : y ∈ t.drop (k + 1) := by
      rcases List.mem_cons.1 hy with rfl | h
      ·rw [hv] at hyn; cases hyn
      ·exact h
     simp -implicitDefEqProofs -dsimp [-head_L, -endOk, k1, hk4, hx2]
     refine wpcall_d hD ?_; simp -implicitDefEqProofs -dsimp [-head_L, -endOk, k6, k9]
     refine ⟨k + 1, ⟨y, hy2, hyn⟩, by omega, wrK .i64 (wrK .i64 (16 * n) + d), ?_⟩
     simp -implicitDefEqProofs -dsimp
 ·have a1 : ¬ (a : Int) ≤ l.length - 4 := by omega
  have : fourP l a = none := by unfold fourP; rw [if_neg hlt]
  rw [this]
  refine Fn_of Tryz.func201 rfl rfl (by simp -implicitDefEqProofs -dsimp) rfl ?_; simp only [Tryz.f201]
  simp -implicitDefEqProofs -dsimp [w1, a1]; repeat' (first | with_reducible intro _ | with_reducible apply And.intro | (refine chkOk ?_; kernel_rfl) | (refine wpcall_d (iwithin) ?_; simp -implicitDefEqProofs -dsimp [w1, a1]))
theorem ireadUnit {l : List UInt8} {a : Nat} (hl : l.length ≤ 1099511627776) (ha : a ≤ 1099511627778) : Fn Tryz.prog 180 [T l, I a] [.un, .un] [I ((unitP l a).getD 0), B (unitP l a).isSome] := by
 have hB1 := ibyteAt (a := a) hl
 have hB2 := ibyteAt (a := a + 1) hl
 have hF := iReadFour (a := a + 2) hl (by omega)
 simp only [Int.natCast_add, Int.cast_ofNat_Int] at hB2 hF
 have w1 : wrK .i64 ((a : Int) + 1) = a + 1 := wrap64_id _ (by omega)
 have w2 : wrK .i64 ((a : Int) + 2) = a + 2 := wrap64_id _ (by omega)
 by_cases h1 : byN l a = 92
 ·by_cases h2 : byN l (a + 1) = 117
  ·have hU : unitP l a = fourP l (a + 2) := by unfold unitP; rw [if_pos ⟨h1, h2⟩]
   rw [hU]
   refine Fn_of Tryz.func180 rfl rfl (by simp -implicitDefEqProofs -dsimp) rfl ?_; simp only [Tryz.f180]
   simp -implicitDefEqProofs -dsimp [h1, h2, w1, w2]; repeat' (first | with_reducible intro _ | with_reducible apply And.intro | (refine chkOk ?_; kernel_rfl) | (refine wpcall_d (hB1) ?_; simp -implicitDefEqProofs -dsimp [h1, h2, w1, w2]) | (refine wpcall_d (hB2) ?_; simp -implicitDefEqProofs -dsimp [h1, h2, w1, w2]) | (refine wpcall_d (hF) ?_; simp -implicitDefEqProofs -dsimp [h1, h2, w1, w2]))
  ·have hU : unitP l a = none := by unfold unitP; rw [if_neg (fun h => h2 h.2)]
   have h2' : ¬ (byN l (a + 1) : Int) = 117 := by omega
   rw [hU]
   refine Fn_of Tryz.func180 rfl rfl (by simp -implicitDefEqProofs -dsimp) rfl ?_; simp only [Tryz.f180]
   simp -implicitDefEqProofs -dsimp [h1, h2', w1]; repeat' (first | with_reducible intro _ | with_reducible apply And.intro | (refine chkOk ?_; kernel_rfl) | (refine wpcall_d (hB1) ?_; simp -implicitDefEqProofs -dsimp [h1, h2', w1]) | (refine wpcall_d (hB2) ?_; simp -implicitDefEqProofs -dsimp [h1, h2', w1]))
 ·have hU : unitP l a = none := by unfold unitP; rw [if_neg (fun h => h1 h.1)]
  have h1' : ¬ (byN l a : Int) = 92 := by omega
  rw [hU]
  refine Fn_of Tryz.func180 rfl rfl (by simp -implicitDefEqProofs -dsimp) rfl ?_; simp only [Tryz.f180]
  simp -implicitDefEqProofs -dsimp [h1', w1]; repeat' (first | with_reducible intro _ | with_reducible apply And.intro | (refine chkOk ?_; kernel_rfl) | (refine wpcall_d (hB1) ?_; simp -implicitDefEqProofs -dsimp [h1', w1]) | (refine wpcall_d (hB2) ?_; simp -implicitDefEqProofs -dsimp [h1', w1]))
theorem lLetter (x : Nat) (hx : x < 256) : Fn Tryz.prog 145 [T [98, 116, 110, 102, 114], A8 x] [.un, .un] [I (Lib.indexByte [98, 116, 110, 102, 114] (UInt8.ofNat x))] := by
 have h := lIndexByte (s := ⟨#[98, 116, 110, 102, 114]⟩) (c := x)
 exact h
theorem noLetterF : ∀ i : Fin 256, ¬ (i.val = 98 ∨ i.val = 116 ∨ i.val = 110 ∨ i.val = 102 ∨ i.val = 114) → Lib.indexByte [98, 116, 110, 102, 114] (UInt8.ofNat i.val) = -1 := by decide
theorem unitP_lt {l : List UInt8} {a n : Nat} (h : unitP l a = some n) : n < 65536 := by
 unfold unitP at h; split at h
 ·exact fourP_lt h
 ·cases h
theorem ireadEscape_u {l : List UInt8} {a : Nat} (hl : l.length ≤ 1073741824) (ha : a < l.length) (hbs : byN l a = 92) (hq : ¬ (byN l (a + 1) = 34 ∨ byN l (a + 1) = 92 ∨ byN l (a + 1) = 47 ∨ byN l (a + 1) = 98 ∨ byN l (a + 1) = 116 ∨ byN l (a + 1) = 110 ∨ byN l (a + 1) = 102 ∨ byN l (a + 1) = 114)) : Fn Tryz.prog 149 [T l, I a] [.un, .un] [I (optN (escP l a)).1, I (optN (escP l a)).2] := by
 have hl' : l.length ≤ 1099511627776 := by omega
 generalize hR : escP l a = R
 unfold escP at hR
 have hB := ibyteAt (a := a + 1) hl'
 have hlt := byN_lt l (a + 1)
 simp only [Int.natCast_add, Int.cast_ofNat_Int] at hB
 have w1 : wrK .i64 ((a : Int) + 1) = a + 1 := wrap64_id _ (by omega)
 have w6 : wrK .i64 ((a : Int) + 6) = a + 6 := wrap64_id _ (by omega)
 have w12 : wrK .i64 ((a : Int) + 12) = a + 12 := wrap64_id _ (by omega)
 have hn : letP (byN l (a + 1)) = none := by unfold letP; repeat rw [if_neg (by omega)]
 rw [hn] at hR; simp only at hR
 have hL := lLetter _ hlt
 rw [noLetterF ⟨_, hlt⟩ (by simp only; omega)] at hL
 have d1 : ¬ (byN l (a + 1) : Int) = 34 := by omega
 have d2 : ¬ (byN l (a + 1) : Int) = 92 := by omega
 have d3 : ¬ (byN l (a + 1) : Int) = 47 := by omega
 have hU := ireadUnit (a := a) hl' (by omega)
 have hU2 := ireadUnit (a := a + 6) hl' (by omega)
 simp only [Int.natCast_add, Int.cast_ofNat_Int] at hU2
 clear hq hn
 cases hu : unitP l a with
 | none =>
  rw [hu] at hR hU; simp only at hR; subst hR
  simp at hU
  refine Fn_of Tryz.func149 rfl rfl (by simp -implicitDefEqProofs -dsimp) rfl ?_; simp only [Tryz.f149]
  simp -implicitDefEqProofs -dsimp [w1, d1, d2, d3, optN]; repeat' (first | with_reducible intro _ | with_reducible apply And.intro | (refine chkOk ?_; kernel_rfl) | (refine wpcall_d (hB) ?_; simp -implicitDefEqProofs -dsimp [w1, d1, d2, d3, optN]) | (refine wpcall_d (hL) ?_; simp -implicitDefEqProofs -dsimp [w1, d1, d2, d3, optN]) | (refine wpcall_d (hU) ?_; simp -implicitDefEqProofs -dsimp [w1, d1, d2, d3, optN]) | (refine wpcall_d (iwithin) ?_; simp -implicitDefEqProofs -dsimp [w1, d1, d2, d3, optN]))
 | some n =>
  have hn := unitP_lt hu
  rw [hu] at hR hU; simp only at hR
  simp at hU
  by_cases hlow : 56320 ≤ n ∧ n ≤ 57343
  ·rw [if_pos hlow] at hR; subst hR
   have hS := @iwithin n 56320 57343
   rw [show (decide ((56320 : Int) ≤ n) && decide ((n : Int) ≤ 57343)) = true by simp -implicitDefEqProofs -dsimp; omega] at hS
   refine Fn_of Tryz.func149 rfl rfl (by simp -implicitDefEqProofs -dsimp) rfl ?_; simp only [Tryz.f149]
   simp -implicitDefEqProofs -dsimp [w1, d1, d2, d3, optN]; repeat' (first | with_reducible intro _ | with_reducible apply And.intro | (refine chkOk ?_; kernel_rfl) | (refine wpcall_d (hB) ?_; simp -implicitDefEqProofs -dsimp [w1, d1, d2, d3, optN]) | (refine wpcall_d (hL) ?_; simp -implicitDefEqProofs -dsimp [w1, d1, d2, d3, optN]) | (refine wpcall_d (hU) ?_; simp -implicitDefEqProofs -dsimp [w1, d1, d2, d3, optN]) | (refine wpcall_d (hS) ?_; simp -implicitDefEqProofs -dsimp [w1, d1, d2, d3, optN]))
  ·rw [if_neg hlow] at hR
   have hS := @iwithin n 56320 57343
   rw [show (decide ((56320 : Int) ≤ n) && decide ((n : Int) ≤ 57343)) = false by rw [Bool.eq_false_iff]; simp -implicitDefEqProofs -dsimp; omega] at hS
   by_cases hhi : 55296 ≤ n ∧ n ≤ 56319
   ·rw [if_neg (by omega)] at hR
    have hS2 := @iwithin n 55296 56319
    rw [show (decide ((55296 : Int) ≤ n) && decide ((n : Int) ≤ 56319)) = true by simp -implicitDefEqProofs -dsimp; omega] at hS2
    cases hu2 : unitP l (a + 6) with
    | none =>
     rw [hu2] at hR hU2; simp only at hR; subst hR
     simp at hU2
     refine Fn_of Tryz.func149 rfl rfl (by simp -implicitDefEqProofs -dsimp) rfl ?_; simp only [Tryz.f149]
     simp -implicitDefEqProofs -dsimp [w1, w6, d1, d2, d3, optN]; repeat' (first | with_reducible intro _ | with_reducible apply And.intro | (refine chkOk ?_; kernel_rfl) | (refine wpcall_d (hB) ?_; simp -implicitDefEqProofs -dsimp [w1, w6, d1, d2, d3, optN]) | (refine wpcall_d (hL) ?_; simp -implicitDefEqProofs -dsimp [w1, w6, d1, d2, d3, optN]) | (refine wpcall_d (hU) ?_; simp -implicitDefEqProofs -dsimp [w1, w6, d1, d2, d3, optN]) | (refine wpcall_d (hU2) ?_; simp -implicitDefEqProofs -dsimp [w1, w6, d1, d2, d3, optN]) | (refine wpcall_d (hS) ?_; simp -implicitDefEqProofs -dsimp [w1, w6, d1, d2, d3, optN]) | (refine wpcall_d (hS2) ?_; simp -implicitDefEqProofs -dsimp [w1, w6, d1, d2, d3, optN]) | (refine wpcall_d (iwithin) ?_; simp -implicitDefEqProofs -dsimp [w1, w6, d1, d2, d3, optN]))
    | some m =>
     have hm := unitP_lt hu2
     rw [hu2] at hR hU2; simp only at hR
     simp at hU2
     by_cases hml : 56320 ≤ m ∧ m ≤ 57343
     ·rw [if_pos hml] at hR; subst hR
      have hS3 := @iwithin m 56320 57343
      rw [show (decide ((56320 : Int) ≤ m) && decide ((m : Int) ≤ 57343)) = true by simp -implicitDefEqProofs -dsimp; omega] at hS3
      have z1 : wrK .i64 ((n : Int) - 55296) = n - 55296 := wrap64_id _ (by omega)
      have z2 : wrK .i64 (1024 * ((n : Int) - 55296)) = 1024 * (n - 55296) := wrap64_id _ (by omega)
      have z3 : wrK .i64 (65536 + 1024 * ((n : Int) - 55296)) = 65536 + 1024 * (n - 55296) := wrap64_id _ (by omega)
      have z4 : wrK .i64 (65536 + 1024 * ((n : Int) - 55296) + m) = 65536 + 1024 * (n - 55296) + m := wrap64_id _ (by omega)
      have z5 : wrK .i64 (65536 + 1024 * ((n : Int) - 55296) + m - 56320) = ((65536 + 1024 * (n - 55296) + m - 56320 : Nat) : Int) := by rw [wrap64_id _ (by omega)]; omega
      generalize 65536 + 1024 * (n - 55296) + m - 56320 = Z at z5 ⊢
      refine Fn_of Tryz.func149 rfl rfl (by simp -implicitDefEqProofs -dsimp) rfl ?_; simp only [Tryz.f149]
      simp -implicitDefEqProofs -dsimp [w1, w6, w12, d1, d2, d3, optN, z1, z2, z3, z4, z5]; repeat' (first | with_reducible intro _ | with_reducible apply And.intro | (refine chkOk ?_; kernel_rfl) | (refine wpcall_d (hB) ?_; simp -implicitDefEqProofs -dsimp [w1, w6, w12, d1, d2, d3, optN, z1, z2, z3, z4, z5]) | (refine wpcall_d (hL) ?_; simp -implicitDefEqProofs -dsimp [w1, w6, w12, d1, d2, d3, optN, z1, z2, z3, z4, z5]) | (refine wpcall_d (hU) ?_; simp -implicitDefEqProofs -dsimp [w1, w6, w12, d1, d2, d3, optN, z1, z2, z3, z4, z5]) | (refine wpcall_d (hU2) ?_; simp -implicitDefEqProofs -dsimp [w1, w6, w12, d1, d2, d3, optN, z1, z2, z3, z4, z5]) | (refine wpcall_d (hS) ?_; simp -implicitDefEqProofs -dsimp [w1, w6, w12, d1, d2, d3, optN, z1, z2, z3, z4, z5]) | (refine wpcall_d (hS2) ?_; simp -implicitDefEqProofs -dsimp [w1, w6, w12, d1, d2, d3, optN, z1, z2, z3, z4, z5]) | (refine wpcall_d (hS3) ?_; simp -implicitDefEqProofs -dsimp [w1, w6, w12, d1, d2, d3, optN, z1, z2, z3, z4, z5]))
     ·rw [if_neg hml] at hR; subst hR
      have hS3 := @iwithin m 56320 57343
      rw [show (decide ((56320 : Int) ≤ m) && decide ((m : Int) ≤ 57343)) = false by rw [Bool.eq_false_iff]; simp -implicitDefEqProofs -dsimp; omega] at hS3
      refine Fn_of Tryz.func149 rfl rfl (by simp -implicitDefEqProofs -dsimp) rfl ?_; simp only [Tryz.f149]
      simp -implicitDefEqProofs -dsimp [w1, w6, d1, d2, d3, optN]; repeat' (first | with_reducible intro _ | with_reducible apply And.intro | (refine chkOk ?_; kernel_rfl) | (refine wpcall_d (hB) ?_; simp -implicitDefEqProofs -dsimp [w1, w6, d1, d2, d3, optN]) | (refine wpcall_d (hL) ?_; simp -implicitDefEqProofs -dsimp [w1, w6, d1, d2, d3, optN]) | (refine wpcall_d (hU) ?_; simp -implicitDefEqProofs -dsimp [w1, w6, d1, d2, d3, optN]) | (refine wpcall_d (hU2) ?_; simp -implicitDefEqProofs -dsimp [w1, w6, d1, d2, d3, optN]) | (refine wpcall_d (hS) ?_; simp -implicitDefEqProofs -dsimp [w1, w6, d1, d2, d3, optN]) | (refine wpcall_d (hS2) ?_; simp -implicitDefEqProofs -dsimp [w1, w6, d1, d2, d3, optN]) | (refine wpcall_d (hS3) ?_; simp -implicitDefEqProofs -dsimp [w1, w6, d1, d2, d3, optN]))
   ·rw [if_pos hhi] at hR; subst hR
    have hS2 := @iwithin n 55296 56319
    rw [show (decide ((55296 : Int) ≤ n) && decide ((n : Int) ≤ 56319)) = false by rw [Bool.eq_false_iff]; simp -implicitDefEqProofs -dsimp; omega] at hS2
    refine Fn_of Tryz.func149 rfl rfl (by simp -implicitDefEqProofs -dsimp) rfl ?_; simp only [Tryz.f149]
    simp -implicitDefEqProofs -dsimp [w1, w6, d1, d2, d3, optN]; repeat' (first | with_reducible intro _ | with_reducible apply And.intro | (refine chkOk ?_; kernel_rfl) | (refine wpcall_d (hB) ?_; simp -implicitDefEqProofs -dsimp [w1, w6, d1, d2, d3, optN]) | (refine wpcall_d (hL) ?_; simp -implicitDefEqProofs -dsimp [w1, w6, d1, d2, d3, optN]) | (refine wpcall_d (hU) ?_; simp -implicitDefEqProofs -dsimp [w1, w6, d1, d2, d3, optN]) | (refine wpcall_d (hS) ?_; simp -implicitDefEqProofs -dsimp [w1, w6, d1, d2, d3, optN]) | (refine wpcall_d (hS2) ?_; simp -implicitDefEqProofs -dsimp [w1, w6, d1, d2, d3, optN]))
theorem ireadEscape {l : List UInt8} {a : Nat} (hl : l.length ≤ 1073741824) (ha : a < l.length) (hbs : byN l a = 92) : Fn Tryz.prog 149 [T l, I a] [.un, .un] [I (optN (escP l a)).1, I (optN (escP l a)).2] := by
 by_cases hq : byN l (a + 1) = 34 ∨ byN l (a + 1) = 92 ∨ byN l (a + 1) = 47 ∨ byN l (a + 1) = 98 ∨ byN l (a + 1) = 116 ∨ byN l (a + 1) = 110 ∨ byN l (a + 1) = 102 ∨ byN l (a + 1) = 114
 case neg => exact ireadEscape_u hl ha hbs hq
 generalize hR : escP l a = R
 unfold escP at hR
 have hB := ibyteAt (l := l) (a := a + 1) (by omega)
 have hlt := byN_lt l (a + 1)
 simp only [Int.natCast_add, Int.cast_ofNat_Int] at hB
 have w1 : wrK .i64 ((a : Int) + 1) = a + 1 := wrap64_id _ (by omega)
 have w2 : wrK .i64 ((a : Int) + 2) = a + 2 := wrap64_id _ (by omega)
 rcases hq with hq | hq | hq | hq | hq | hq | hq | hq
 all_goals
  rw [hq] at hR hB
  have hL := lLetter _ (hq ▸ hlt)
  simp only [letP] at hR
  simp -implicitDefEqProofs -dsimp [Lib.indexByte] at hR hL
  subst hR
  refine Fn_of Tryz.func149 rfl rfl (by simp -implicitDefEqProofs -dsimp) rfl ?_; simp only [Tryz.f149]
  simp -implicitDefEqProofs -dsimp [w1, w2, optN]; repeat' (first | with_reducible intro _ | with_reducible apply And.intro | (refine chkOk ?_; kernel_rfl) | (refine wpcall_d (hB) ?_; simp -implicitDefEqProofs -dsimp [w1, w2, optN]) | (refine wpcall_d (hL) ?_; simp -implicitDefEqProofs -dsimp [w1, w2, optN]))
theorem iReadQuoted {l : List UInt8} {a : Nat} (hl : l.length ≤ 1073741824) (hq : byN l a = 34) : Fn Tryz.prog 113 [T l, I a] [.un, .un] [T (quoteR l a).1, I (quoteR l a).2.1, I (quoteR l a).2.2] := by
 have ha := byN_lt_len (l := l) (a := a) (by omega)
 generalize hR : quoteR l a = R
 unfold quoteR at hR
 have hB := ibyteAt (l := l) (a := a) (by omega)
 rw [hq] at hB
 have c5 : wrK .i64 ((a : Int) + 1) = a + 1 := wrap64_id _ (by omega)
 refine Fn_of Tryz.func113 rfl rfl (by simp -implicitDefEqProofs -dsimp) rfl ?_; simp only [Tryz.f113]
 simp -implicitDefEqProofs -dsimp [c5]; repeat' (first | with_reducible intro _ | with_reducible apply And.intro | (refine chkOk ?_; kernel_rfl) | (refine wpcall_d (hB) ?_; simp -implicitDefEqProofs -dsimp [c5]))
 refine WL_loop (fun p : List Nat × Nat => [(0, T l), (1, I p.2), (4, T []), (5, I 0), (6, I 0), (7, .row true 5 ((TX p.1).map bv))]) (fun p => l.length - p.2) (fun p => p.2 ≤ l.length ∧ p.1.length ≤ p.2 ∧ qR (qApp p.1 (strQ l p.2)) = R) ([], a + 1) ⟨by simp only; omega, by simp, by simpa [qApp_nil] using hR⟩ ?_ ?_
 ·simp -implicitDefEqProofs -dsimp
 ·clear hR hB
  rintro ⟨cs, e⟩ ⟨he, hlen, hR⟩
  simp only at he hlen hR ⊢
  have hB := ibyteAt (l := l) (a := e) (by omega)
  have hru := irunAt (l := l) (a := e) (by omega)
  have hTL := TX_len cs
  by_cases h34 : byN l e = 34
  ·have hlt := byN_lt_len (l := l) (a := e) (by omega)
   rw [strQ_shut hlt h34] at hR; simp -implicitDefEqProofs -dsimp [qApp, qR] at hR; subst hR
   rw [h34] at hB
   have d3 : wrK .i64 ((e : Int) + 1) = e + 1 := wrap64_id _ (by omega)
   simp -implicitDefEqProofs -dsimp [-head_L]
   refine wpcall_d hB ?_; simp -implicitDefEqProofs -dsimp [-head_L, d3]
   intro x _ y _; have := y.toNat_lt; omega
  ·have h34' : ¬ (byN l e : Int) = 34 := by omega
   have hbad : letterP l e = none → R = ([], 0, 1) := fun h => by rw [strQ_bad h34 h] at hR; simpa [qApp, qR] using hR.symm
   have hgood : ∀ n e2, letterP l e = some (n, e2) → runeOkP n = true ∧ e < e2 ∧ e2 ≤ l.length ∧ qR (qApp (cs ++ [n]) (strQ l e2)) = R ∧ wrK .i32 (n : Int) = n := fun n e2 h => by
    have h1 := letterP_rune h
    have h2 := letterP_len h
    rw [strQ_step h34 h, qApp_cons] at hR
    have h3 := (runeOkP_iff n).1 h1
    exact ⟨h1, h2.1, h2.2, hR, by rw [wrK_eq, IntKind.wrap_i32]; omega⟩
   have happ : ∀ n : Nat, (TX cs ++ encP n) = TX (cs ++ [n]) := fun n => by simp -implicitDefEqProofs -dsimp
   have hsz : ∀ n : Nat, (TX cs).length + (Utf8.encode (n : Int)).size ≤ 1099511627776 := fun n => by
    have h1 : (Utf8.encode (n : Int)).size = (encP n).length := by unfold encP; simp -implicitDefEqProofs -dsimp
    have h2 := encP_len n
    omega
   by_cases h92 : byN l e = 92
   ·have hlt := byN_lt_len (l := l) (a := e) (by omega)
    have hE := ireadEscape hl hlt h92
    have hL : letterP l e = escP l e := by unfold letterP; rw [if_pos h92]
    rw [h92] at hB
    cases hp : escP l e with
    | none =>
     rw [hp] at hE; rw [hL] at hbad
     obtain rfl := hbad hp
     simp -implicitDefEqProofs -dsimp [optN] at hE
     simp -implicitDefEqProofs -dsimp [-head_L]
     refine wpcall_d hB ?_; simp -implicitDefEqProofs -dsimp [-head_L]
     refine wpcall_d hru ?_; simp -implicitDefEqProofs -dsimp [-head_L]
     refine wpcall_d hB ?_; simp -implicitDefEqProofs -dsimp [-head_L]
     refine wpcall_d hE ?_; simp -implicitDefEqProofs -dsimp [-head_L]
    | some q =>
     obtain ⟨n, e2⟩ := q
     rw [hp] at hE
     obtain ⟨g1, g2, g3, g4, g5⟩ := hgood n e2 (hL.trans hp)
     have g6 : ¬ e2 = 0 := by omega
     have hs := hsz n
     simp at hs
     simp -implicitDefEqProofs -dsimp [optN] at hE
     simp -implicitDefEqProofs -dsimp [-head_L, -endOk]
     refine wpcall_d hB ?_; simp -implicitDefEqProofs -dsimp [-head_L, -endOk]
     refine wpcall_d hru ?_; simp -implicitDefEqProofs -dsimp [-head_L, -endOk]
     refine wpcall_d hB ?_; simp -implicitDefEqProofs -dsimp [-head_L, -endOk]
     refine wpcall_d hE ?_; simp -implicitDefEqProofs -dsimp [-head_L, -endOk, g5, g6, hs]
     refine ⟨cs ++ [n], e2, ⟨g3, by simp -implicitDefEqProofs -dsimp; omega, g4⟩, by omega, ?_⟩
     simp -implicitDefEqProofs -dsimp [encP]
   ·have h92' : ¬ (byN l e : Int) = 92 := by omega
    cases hp : getP (l.drop e) with
    | none =>
     have hL := letterP_none h92 hp
     obtain rfl := hbad hL
     have hz : rAt l e = (0, 0) := by unfold rAt; rw [hp]
     rw [hz] at hru
     simp at hru
     simp -implicitDefEqProofs -dsimp [-head_L]
     refine wpcall_d hB ?_; simp -implicitDefEqProofs -dsimp [-head_L, h34']
     refine wpcall_d hru ?_; simp -implicitDefEqProofs -dsimp [-head_L]
     refine wpcall_d hB ?_; simp -implicitDefEqProofs -dsimp [-head_L, h92']
    | some q =>
     obtain ⟨n, w⟩ := q
     have hL := letterP_some h92 hp
     have hz : rAt l e = (n, e + w) := by unfold rAt; rw [hp]
     rw [hz] at hru
     simp at hru
     by_cases hn : n < 32
     ·rw [if_pos hn] at hL
      obtain rfl := hbad hL
      have hn2 : (n : Int) < 32 := by omega
      simp -implicitDefEqProofs -dsimp [-head_L]
      refine wpcall_d hB ?_; simp -implicitDefEqProofs -dsimp [-head_L, h34']
      refine wpcall_d hru ?_; simp -implicitDefEqProofs -dsimp [-head_L]
      refine wpcall_d hB ?_; simp -implicitDefEqProofs -dsimp [-head_L, h92', hn2]
     ·rw [if_neg hn] at hL
      have hn2 : ¬ (n : Int) < 32 := by omega
      obtain ⟨g1, g2, g3, g4, g5⟩ := hgood n (e + w) hL
      have g6 : ¬ (e : Int) + w = 0 := by omega
      have hs := hsz n
      simp at hs
      simp -implicitDefEqProofs -dsimp [-head_L, -endOk]
      refine wpcall_d hB ?_; simp -implicitDefEqProofs -dsimp [-head_L, -endOk, h34']
      refine wpcall_d hru ?_; simp -implicitDefEqProofs -dsimp [-head_L, -endOk]
      refine wpcall_d hB ?_; simp -implicitDefEqProofs -dsimp [-head_L, -endOk, h92', hn2, g5, g6, hs]
      refine ⟨cs ++ [n], e + w, ⟨g3, by simp -implicitDefEqProofs -dsimp; omega, g4⟩, by omega, ?_⟩
      simp -implicitDefEqProofs -dsimp [encP]
end Go.Proofs.YtlfblkekbcfjpaaGreatDoor
