/- Part of a proof: contracts and plain laws. -/
import Derived.Test.YtlfblkekbcfjpaaGreatDoorZ31
set_option linter.unusedVariables false
set_option linter.unusedSimpArgs false
namespace Go.Proofs.YtlfblkekbcfjpaaGreatDoor
open Go
set_option maxRecDepth 100000
set_option maxHeartbeats 2000000
theorem num4_ok {l : List UInt8} {neg s : Bool} {w f e : List UInt8} {a : Nat} (h : a ≤ l.length) : ((num4 neg w f s e a).2.2.2 = 0 ∨ (num4 neg w f s e a).2.2.2 = 2) ∧ (num4 neg w f s e a).2.2.1 = a := by
 unfold num4; split <;> simp -implicitDefEqProofs -dsimp
theorem num3_ok {l : List UInt8} {neg : Bool} {w f : List UInt8} {a : Nat} (h : a ≤ l.length) : ((num3 l neg w f a).2.2.2 = 0 ∨ (num3 l neg w f a).2.2.2 = 1 ∨ (num3 l neg w f a).2.2.2 = 2) ∧ ((num3 l neg w f a).2.2.2 = 0 → a ≤ (num3 l neg w f a).2.2.1 ∧ (num3 l neg w f a).2.2.1 ≤ l.length) := by
 have h1 := dgs_len l (a + 1)
 have h2 := dgs_len l (a + 2)
 have key : ∀ s e b, a ≤ b → b ≤ l.length → ((num4 neg w f s e b).2.2.2 = 0 ∨ (num4 neg w f s e b).2.2.2 = 1 ∨ (num4 neg w f s e b).2.2.2 = 2) ∧ ((num4 neg w f s e b).2.2.2 = 0 → a ≤ (num4 neg w f s e b).2.2.1 ∧ (num4 neg w f s e b).2.2.1 ≤ l.length) := fun s e b ha hb => by
  have := num4_ok (l := l) (neg := neg) (w := w) (f := f) (s := s) (e := e) hb
  rw [this.2]
  exact ⟨by rcases this.1 with h | h <;> simp -implicitDefEqProofs -dsimp [h], fun _ => ⟨ha, hb⟩⟩
 unfold num3
 split
 ·rename_i hE
  have hlt := byN_lt_len (l := l) (a := a) (by omega)
  split
  ·rename_i hS
   have hlt2 := byN_lt_len (l := l) (a := a + 1) (by omega)
   split
   ·simp -implicitDefEqProofs -dsimp
   ·exact key _ _ _ (by omega) (by omega)
  ·split
   ·simp -implicitDefEqProofs -dsimp
   ·exact key _ _ _ (by omega) (by omega)
 ·exact key _ _ _ (by omega) (by omega)
theorem numP_ok {l : List UInt8} {a : Nat} (h : a < l.length) : ((numP l a).2.2.2 = 0 ∨ (numP l a).2.2.2 = 1 ∨ (numP l a).2.2.2 = 2) ∧ ((numP l a).2.2.2 = 0 → a < (numP l a).2.2.1 ∧ (numP l a).2.2.1 ≤ l.length) := by
 have k2 : ∀ neg w a2, a < a2 → a2 ≤ l.length → ((num2 l neg w a2).2.2.2 = 0 ∨ (num2 l neg w a2).2.2.2 = 1 ∨ (num2 l neg w a2).2.2.2 = 2) ∧ ((num2 l neg w a2).2.2.2 = 0 → a < (num2 l neg w a2).2.2.1 ∧ (num2 l neg w a2).2.2.1 ≤ l.length) := fun neg w a2 ha hb => by
  unfold num2
  have h1 := dgs_len l (a2 + 1)
  split
  ·have hlt := byN_lt_len (l := l) (a := a2) (by omega)
   split
   ·simp -implicitDefEqProofs -dsimp
   ·have := num3_ok (l := l) (neg := neg) (w := w) (f := dgs l (a2 + 1)) (a := a2 + 1 + (dgs l (a2 + 1)).length) (by omega)
    exact ⟨this.1, fun h => ⟨by have := (this.2 h).1; omega, (this.2 h).2⟩⟩
  ·have := num3_ok (l := l) (neg := neg) (w := w) (f := []) hb
   exact ⟨this.1, fun h => ⟨by have := (this.2 h).1; omega, (this.2 h).2⟩⟩
 have k1 : ∀ neg a1, a ≤ a1 → a1 ≤ l.length → ((num1 l neg a1).2.2.2 = 0 ∨ (num1 l neg a1).2.2.2 = 1 ∨ (num1 l neg a1).2.2.2 = 2) ∧ ((num1 l neg a1).2.2.2 = 0 → a < (num1 l neg a1).2.2.1 ∧ (num1 l neg a1).2.2.1 ≤ l.length) := fun neg a1 ha hb => by
  unfold num1
  have h1 := dgs_len l a1
  split
  ·simp -implicitDefEqProofs -dsimp
  ·rename_i hne
   obtain ⟨q1, q2, q3, q4⟩ := wholeP_ok (dgs_all l a1) hne
   have q5 : 0 < (wholeP (dgs l a1)).length := by cases h : wholeP (dgs l a1) <;> simp -implicitDefEqProofs -dsimp [h] at q2 ⊢
   exact k2 _ _ _ (by omega) (by omega)
 unfold numP
 split
 ·exact k1 _ _ (by omega) (by omega)
 ·exact k1 _ _ (by omega) (by omega)
theorem strP_len {l : List UInt8} : ∀ (f a : Nat) {cs : List Nat} {e : Nat}, strP l f a = some (cs, e) → a < e ∧ e ≤ l.length
 | 0, a, cs, e, h => by cases h
 | f + 1, a, cs, e, h => by
  unfold strP at h
  split at h
  ·cases h
  ·split at h
   ·cases h; omega
   ·cases h1 : letterP l a with
    | none => rw [h1] at h; cases h
    | some p =>
     obtain ⟨n, e1⟩ := p
     have h2 := letterP_len h1
     rw [h1] at h; simp only at h
     cases h3 : strP l f e1 with
     | none => rw [h3] at h; cases h
     | some q =>
      have h4 := strP_len f e1 h3
      rw [h3] at h; cases h
      omega
theorem tokAt_len {l : List UInt8} {a : Nat} {t : Tok} {e : Nat} (ha : a ≤ l.length) (h : tokAt l a = .ok (t, e)) : e ≤ l.length ∧ (t.k = 0 → a = l.length) ∧ (t.k ≠ 0 → a < e) ∧ 0 ≤ t.k := by
 unfold tokAt at h
 split at h
 ·cases h; simp -implicitDefEqProofs -dsimp; omega
 ·split at h
  ·cases h; simp -implicitDefEqProofs -dsimp; omega
  ·split at h
   ·cases hs : strQ l (a + 1) with
    | none => rw [hs] at h; cases h
    | some p =>
     rw [hs] at h; cases h
     have := strP_len _ _ hs
     simp -implicitDefEqProofs -dsimp; omega
   ·split at h
    ·split at h
     ·rename_i h0
      have := (numP_ok (l := l) (a := a) (by omega)).2 h0
      cases h; simp -implicitDefEqProofs -dsimp; omega
     ·cases h
    ·unfold wordP at h
     have key : ∀ w, 0 < w.length → startsAt l a w = true → a + w.length ≤ l.length := fun w hw hs => by
      rcases Nat.lt_or_ge l.length (a + w.length) with h1 | h1
      ·rw [starts_no hw h1] at hs; cases hs
      ·exact h1
     repeat' split at h
     ·rename_i hs; have := key _ (by decide) hs; cases h; simp at this ⊢; omega
     ·rename_i hs; have := key _ (by decide) hs; cases h; simp at this ⊢; omega
     ·rename_i hs; have := key _ (by decide) hs; cases h; simp at this ⊢; omega
     ·cases h
theorem sReadToken {l : List UInt8} {a : Nat} (hl : l.length ≤ 1073741824) (ha : a ≤ l.length) : Fn Tryz.prog 63 [T l, I a] [.un, .un] [tkV (tkR (tokP l a)).1, I (tkR (tokP l a)).2.1, I (tkR (tokP l a)).2.2] := by
 have hl' : l.length ≤ 1099511627776 := by omega
 generalize hR : tokP l a = R
 unfold tokP at hR
 have hS := s10Skip hl' ha
 have he := (skipP_le ha).2
 have c1 : ¬ (a : Int) < 0 := by omega
 have c2 : ¬ (l.length : Int) < a := by omega
 generalize skipP l a = e at *
 unfold tokAt at hR
 by_cases hel : e = l.length
 ·rw [if_pos (by omega)] at hR; subst hR hel
  refine Fn_of Tryz.func63 rfl rfl (by simp -implicitDefEqProofs -dsimp) rfl ?_; simp only [Tryz.f63]
  simp -implicitDefEqProofs -dsimp [c1, c2, ha, tkR]; repeat' (first | with_reducible intro _ | with_reducible apply And.intro | (refine chkOk ?_; kernel_rfl) | (refine wpcall_d (hS) ?_; simp -implicitDefEqProofs -dsimp [c1, c2, ha, tkR]))
 ·rw [if_neg (by omega)] at hR
  have d1 : ¬ (e : Int) = l.length := by omega
  have hlt : e < l.length := by omega
  obtain ⟨x, hx⟩ : ∃ x, l[e]? = some x := ⟨_, List.getElem?_eq_getElem hlt⟩
  have hx2 : l[e] = x := by rw [List.getElem?_eq_getElem hlt] at hx; exact Option.some.inj hx
  have hg : l.getD e 0 = x := by rw [List.getD_eq_getElem?_getD, hx]; rfl
  have hb : byN l e = x.toNat := byN_some hx
  rw [hb, hg] at hR
  have d2 : wrK .i64 ((e : Int) + 1) = e + 1 := wrap64_id _ (by omega)
  have d3 : ((e : Int) + 1).toNat = e + 1 := by omega
  have d4 : (e : Int) + 1 ≤ l.length := by omega
  have d5 : (l.take (e + 1)).drop e = [x] := by rw [List.drop_take, show e + 1 - e = 1 by omega, List.drop_eq_getElem_cons hlt, hx2]; rfl
  have d6 : (e : Int) < l.length := by omega
  have d7 : (e : Int) ≤ e + 1 := by omega
  have hSg := @s10SignOk x
  by_cases hsg : isSg x.toNat = true
  ·rw [if_pos hsg] at hR; subst hR
   rw [hsg] at hSg
   refine Fn_of Tryz.func63 rfl rfl (by simp -implicitDefEqProofs -dsimp) rfl ?_; simp only [Tryz.f63]
   simp -implicitDefEqProofs -dsimp [c1, c2, ha, d1, d2, d3, d4, d5, d6, d7, hlt, hx2, tkR]; repeat' (first | with_reducible intro _ | with_reducible apply And.intro | (refine chkOk ?_; kernel_rfl) | (refine wpcall_d (hS) ?_; simp -implicitDefEqProofs -dsimp [c1, c2, ha, d1, d2, d3, d4, d5, d6, d7, hlt, hx2, tkR]) | (refine wpcall_d (hSg) ?_; simp -implicitDefEqProofs -dsimp [c1, c2, ha, d1, d2, d3, d4, d5, d6, d7, hlt, hx2, tkR]))
  ·rw [if_neg hsg] at hR
   have hsg : isSg x.toNat = false := by simpa using hsg
   rw [hsg] at hSg
   by_cases h34 : x.toNat = 34
   ·rw [if_pos h34] at hR
    have hQ := sReadQuoted hl (hb.trans h34)
    unfold quoteR at hQ
    cases hs : strQ l (e + 1) with
    | none =>
     rw [hs] at hR hQ; simp only at hR; subst hR
     simp -implicitDefEqProofs -dsimp [qR] at hQ
     refine Fn_of Tryz.func63 rfl rfl (by simp -implicitDefEqProofs -dsimp) rfl ?_; simp only [Tryz.f63]
     simp -implicitDefEqProofs -dsimp [c1, c2, ha, d1, d2, d3, d4, d5, d6, d7, hlt, hx2, h34, tkR]; repeat' (first | with_reducible intro _ | with_reducible apply And.intro | (refine chkOk ?_; kernel_rfl) | (refine wpcall_d (hS) ?_; simp -implicitDefEqProofs -dsimp [c1, c2, ha, d1, d2, d3, d4, d5, d6, d7, hlt, hx2, h34, tkR]) | (refine wpcall_d (hSg) ?_; simp -implicitDefEqProofs -dsimp [c1, c2, ha, d1, d2, d3, d4, d5, d6, d7, hlt, hx2, h34, tkR]) | (refine wpcall_d (hQ) ?_; simp -implicitDefEqProofs -dsimp [c1, c2, ha, d1, d2, d3, d4, d5, d6, d7, hlt, hx2, h34, tkR]))
    | some p =>
     obtain ⟨cs, e2⟩ := p
     rw [hs] at hR hQ; simp only at hR; subst hR
     simp -implicitDefEqProofs -dsimp [qR] at hQ
     refine Fn_of Tryz.func63 rfl rfl (by simp -implicitDefEqProofs -dsimp) rfl ?_; simp only [Tryz.f63]
     simp -implicitDefEqProofs -dsimp [c1, c2, ha, d1, d2, d3, d4, d5, d6, d7, hlt, hx2, h34, tkR]; repeat' (first | with_reducible intro _ | with_reducible apply And.intro | (refine chkOk ?_; kernel_rfl) | (refine wpcall_d (hS) ?_; simp -implicitDefEqProofs -dsimp [c1, c2, ha, d1, d2, d3, d4, d5, d6, d7, hlt, hx2, h34, tkR]) | (refine wpcall_d (hSg) ?_; simp -implicitDefEqProofs -dsimp [c1, c2, ha, d1, d2, d3, d4, d5, d6, d7, hlt, hx2, h34, tkR]) | (refine wpcall_d (hQ) ?_; simp -implicitDefEqProofs -dsimp [c1, c2, ha, d1, d2, d3, d4, d5, d6, d7, hlt, hx2, h34, tkR]))
   ·rw [if_neg h34] at hR
    have n34 : ¬ (x.toNat : Int) = 34 := by omega
    by_cases hnum : x.toNat = 45 ∨ isDg x = true
    ·rw [if_pos hnum] at hR
     have hN := sReadNumber (l := l) (a := e) hl' he
     have hok := (numP_ok hlt).1
     obtain ⟨nn, xx, ee, cc, hq⟩ : ∃ nn xx ee cc, numP l e = (nn, xx, ee, cc) := ⟨_, _, _, _, rfl⟩
     rw [hq] at hR hN hok
     simp only at hR hN hok
     by_cases h45 : x.toNat = 45
     ·rcases hok with rfl | rfl | rfl
      all_goals
       simp at hR; subst hR
       refine Fn_of Tryz.func63 rfl rfl (by simp -implicitDefEqProofs -dsimp) rfl ?_; simp only [Tryz.f63]
       simp -implicitDefEqProofs -dsimp [c1, c2, ha, d1, d2, d3, d4, d5, d6, d7, hlt, hx2, n34, h45, tkR]; repeat' (first | with_reducible intro _ | with_reducible apply And.intro | (refine chkOk ?_; kernel_rfl) | (refine wpcall_d (hS) ?_; simp -implicitDefEqProofs -dsimp [c1, c2, ha, d1, d2, d3, d4, d5, d6, d7, hlt, hx2, n34, h45, tkR]) | (refine wpcall_d (hSg) ?_; simp -implicitDefEqProofs -dsimp [c1, c2, ha, d1, d2, d3, d4, d5, d6, d7, hlt, hx2, n34, h45, tkR]) | (refine wpcall_d (hN) ?_; simp -implicitDefEqProofs -dsimp [c1, c2, ha, d1, d2, d3, d4, d5, d6, d7, hlt, hx2, n34, h45, tkR]) | (refine wpcall_d (sIn) ?_; simp -implicitDefEqProofs -dsimp [c1, c2, ha, d1, d2, d3, d4, d5, d6, d7, hlt, hx2, n34, h45, tkR]))
     ·have hdg : isDg x = true := by rcases hnum with h | h; exact absurd h h45; exact h
      have n45 : ¬ (x.toNat : Int) = 45 := by omega
      have hD := @sIn x.toNat 48 57
      rw [show (decide ((48 : Int) ≤ x.toNat) && decide ((x.toNat : Int) ≤ 57)) = true by simp -implicitDefEqProofs -dsimp [isDg] at hdg ⊢; omega] at hD
      rcases hok with rfl | rfl | rfl
      all_goals
       simp at hR; subst hR
       refine Fn_of Tryz.func63 rfl rfl (by simp -implicitDefEqProofs -dsimp) rfl ?_; simp only [Tryz.f63]
       simp -implicitDefEqProofs -dsimp [c1, c2, ha, d1, d2, d3, d4, d5, d6, d7, hlt, hx2, n34, n45, tkR]; repeat' (first | with_reducible intro _ | with_reducible apply And.intro | (refine chkOk ?_; kernel_rfl) | (refine wpcall_d (hS) ?_; simp -implicitDefEqProofs -dsimp [c1, c2, ha, d1, d2, d3, d4, d5, d6, d7, hlt, hx2, n34, n45, tkR]) | (refine wpcall_d (hSg) ?_; simp -implicitDefEqProofs -dsimp [c1, c2, ha, d1, d2, d3, d4, d5, d6, d7, hlt, hx2, n34, n45, tkR]) | (refine wpcall_d (hN) ?_; simp -implicitDefEqProofs -dsimp [c1, c2, ha, d1, d2, d3, d4, d5, d6, d7, hlt, hx2, n34, n45, tkR]) | (refine wpcall_d (hD) ?_; simp -implicitDefEqProofs -dsimp [c1, c2, ha, d1, d2, d3, d4, d5, d6, d7, hlt, hx2, n34, n45, tkR]))
    ·rw [if_neg hnum] at hR
     have hW := s10Word hl' he
     rw [hR] at hW
     have n45 : ¬ (x.toNat : Int) = 45 := by omega
     have hD := @sIn x.toNat 48 57
     rw [show (decide ((48 : Int) ≤ x.toNat) && decide ((x.toNat : Int) ≤ 57)) = false by rw [Bool.eq_false_iff]; intro h; exact hnum (.inr (by simp -implicitDefEqProofs -dsimp [isDg] at h ⊢; omega))] at hD
     refine Fn_of Tryz.func63 rfl rfl (by simp -implicitDefEqProofs -dsimp) rfl ?_; simp only [Tryz.f63]
     simp -implicitDefEqProofs -dsimp [c1, c2, ha, d1, d2, d3, d4, d5, d6, d7, hlt, hx2, n34, n45]; repeat' (first | with_reducible intro _ | with_reducible apply And.intro | (refine chkOk ?_; kernel_rfl) | (refine wpcall_d (hS) ?_; simp -implicitDefEqProofs -dsimp [c1, c2, ha, d1, d2, d3, d4, d5, d6, d7, hlt, hx2, n34, n45]) | (refine wpcall_d (hSg) ?_; simp -implicitDefEqProofs -dsimp [c1, c2, ha, d1, d2, d3, d4, d5, d6, d7, hlt, hx2, n34, n45]) | (refine wpcall_d (hD) ?_; simp -implicitDefEqProofs -dsimp [c1, c2, ha, d1, d2, d3, d4, d5, d6, d7, hlt, hx2, n34, n45]) | (refine wpcall_d (hW) ?_; simp -implicitDefEqProofs -dsimp [c1, c2, ha, d1, d2, d3, d4, d5, d6, d7, hlt, hx2, n34, n45]))
theorem iReadToken {l : List UInt8} {a : Nat} (hl : l.length ≤ 1073741824) (ha : a ≤ l.length) : Fn Tryz.prog 79 [T l, I a] [.un, .un] [tkV (tkR (tokP l a)).1, I (tkR (tokP l a)).2.1, I (tkR (tokP l a)).2.2] := by
 have hl' : l.length ≤ 1099511627776 := by omega
 generalize hR : tokP l a = R
 unfold tokP at hR
 have hS := iSkip hl' ha
 have he := (skipP_le ha).2
 generalize skipP l a = e at *
 unfold tokAt at hR
 by_cases hel : e = l.length
 ·rw [if_pos (by omega)] at hR; subst hR hel
  refine Fn_of Tryz.func79 rfl rfl (by simp -implicitDefEqProofs -dsimp) rfl ?_; simp only [Tryz.f79]
  simp -implicitDefEqProofs -dsimp [ha, tkR]; repeat' (first | with_reducible intro _ | with_reducible apply And.intro | (refine chkOk ?_; kernel_rfl) | (refine wpcall_d (iwithin) ?_; simp -implicitDefEqProofs -dsimp [ha, tkR]) | (refine wpcall_d (hS) ?_; simp -implicitDefEqProofs -dsimp [ha, tkR]))
 ·rw [if_neg (by omega)] at hR
  have d1 : ¬ (e : Int) = l.length := by omega
  have hlt : e < l.length := by omega
  obtain ⟨x, hx⟩ : ∃ x, l[e]? = some x := ⟨_, List.getElem?_eq_getElem hlt⟩
  have hx2 : l[e] = x := by rw [List.getElem?_eq_getElem hlt] at hx; exact Option.some.inj hx
  have hg : l.getD e 0 = x := by rw [List.getD_eq_getElem?_getD, hx]; rfl
  have hb : byN l e = x.toNat := byN_some hx
  rw [hb, hg] at hR
  have d2 : wrK .i64 ((e : Int) + 1) = e + 1 := wrap64_id _ (by omega)
  have d3 : ((e : Int) + 1).toNat = e + 1 := by omega
  have d4 : (e : Int) + 1 ≤ l.length := by omega
  have d5 : (l.take (e + 1)).drop e = [x] := by rw [List.drop_take, show e + 1 - e = 1 by omega, List.drop_eq_getElem_cons hlt, hx2]; rfl
  have d6 : (e : Int) < l.length := by omega
  have d7 : (e : Int) ≤ e + 1 := by omega
  have hSg := @iSignOk x
  have hDg := iisDigit (l := l) (a := e) hl'
  rw [hg] at hDg
  by_cases hsg : isSg x.toNat = true
  ·rw [if_pos hsg] at hR; subst hR
   rw [hsg] at hSg
   refine Fn_of Tryz.func79 rfl rfl (by simp -implicitDefEqProofs -dsimp) rfl ?_; simp only [Tryz.f79]
   simp -implicitDefEqProofs -dsimp [ha, d1, d2, d3, d4, d5, d6, d7, hlt, hx2, tkR]; repeat' (first | with_reducible intro _ | with_reducible apply And.intro | (refine chkOk ?_; kernel_rfl) | (refine wpcall_d (iwithin) ?_; simp -implicitDefEqProofs -dsimp [ha, d1, d2, d3, d4, d5, d6, d7, hlt, hx2, tkR]) | (refine wpcall_d (hS) ?_; simp -implicitDefEqProofs -dsimp [ha, d1, d2, d3, d4, d5, d6, d7, hlt, hx2, tkR]) | (refine wpcall_d (hSg) ?_; simp -implicitDefEqProofs -dsimp [ha, d1, d2, d3, d4, d5, d6, d7, hlt, hx2, tkR]))
  ·rw [if_neg hsg] at hR
   have hsg : isSg x.toNat = false := by simpa using hsg
   rw [hsg] at hSg
   by_cases h34 : x.toNat = 34
   ·rw [if_pos h34] at hR
    have hQ := iReadQuoted hl (hb.trans h34)
    unfold quoteR at hQ
    cases hs : strQ l (e + 1) with
    | none =>
     rw [hs] at hR hQ; simp only at hR; subst hR
     simp -implicitDefEqProofs -dsimp [qR] at hQ
     refine Fn_of Tryz.func79 rfl rfl (by simp -implicitDefEqProofs -dsimp) rfl ?_; simp only [Tryz.f79]
     simp -implicitDefEqProofs -dsimp [ha, d1, d2, d3, d4, d5, d6, d7, hlt, hx2, h34, tkR]; repeat' (first | with_reducible intro _ | with_reducible apply And.intro | (refine chkOk ?_; kernel_rfl) | (refine wpcall_d (iwithin) ?_; simp -implicitDefEqProofs -dsimp [ha, d1, d2, d3, d4, d5, d6, d7, hlt, hx2, h34, tkR]) | (refine wpcall_d (hS) ?_; simp -implicitDefEqProofs -dsimp [ha, d1, d2, d3, d4, d5, d6, d7, hlt, hx2, h34, tkR]) | (refine wpcall_d (hSg) ?_; simp -implicitDefEqProofs -dsimp [ha, d1, d2, d3, d4, d5, d6, d7, hlt, hx2, h34, tkR]) | (refine wpcall_d (hQ) ?_; simp -implicitDefEqProofs -dsimp [ha, d1, d2, d3, d4, d5, d6, d7, hlt, hx2, h34, tkR]))
    | some p =>
     obtain ⟨cs, e2⟩ := p
     rw [hs] at hR hQ; simp only at hR; subst hR
     simp -implicitDefEqProofs -dsimp [qR] at hQ
     refine Fn_of Tryz.func79 rfl rfl (by simp -implicitDefEqProofs -dsimp) rfl ?_; simp only [Tryz.f79]
     simp -implicitDefEqProofs -dsimp [ha, d1, d2, d3, d4, d5, d6, d7, hlt, hx2, h34, tkR]; repeat' (first | with_reducible intro _ | with_reducible apply And.intro | (refine chkOk ?_; kernel_rfl) | (refine wpcall_d (iwithin) ?_; simp -implicitDefEqProofs -dsimp [ha, d1, d2, d3, d4, d5, d6, d7, hlt, hx2, h34, tkR]) | (refine wpcall_d (hS) ?_; simp -implicitDefEqProofs -dsimp [ha, d1, d2, d3, d4, d5, d6, d7, hlt, hx2, h34, tkR]) | (refine wpcall_d (hSg) ?_; simp -implicitDefEqProofs -dsimp [ha, d1, d2, d3, d4, d5, d6, d7, hlt, hx2, h34, tkR]) | (refine wpcall_d (hQ) ?_; simp -implicitDefEqProofs -dsimp [ha, d1, d2, d3, d4, d5, d6, d7, hlt, hx2, h34, tkR]))
   ·rw [if_neg h34] at hR
    have n34 : ¬ (x.toNat : Int) = 34 := by omega
    by_cases hnum : x.toNat = 45 ∨ isDg x = true
    ·rw [if_pos hnum] at hR
     have hN := iReadNumber (l := l) (a := e) hl' he
     have hok := (numP_ok hlt).1
     obtain ⟨nn, xx, ee, cc, hq⟩ : ∃ nn xx ee cc, numP l e = (nn, xx, ee, cc) := ⟨_, _, _, _, rfl⟩
     rw [hq] at hR hN hok
     simp only at hR hN hok
     by_cases h45 : x.toNat = 45
     ·rcases hok with rfl | rfl | rfl
      all_goals
       simp at hR; subst hR
       refine Fn_of Tryz.func79 rfl rfl (by simp -implicitDefEqProofs -dsimp) rfl ?_; simp only [Tryz.f79]
       simp -implicitDefEqProofs -dsimp [ha, d1, d2, d3, d4, d5, d6, d7, hlt, hx2, n34, h45, tkR]; repeat' (first | with_reducible intro _ | with_reducible apply And.intro | (refine chkOk ?_; kernel_rfl) | (refine wpcall_d (iwithin) ?_; simp -implicitDefEqProofs -dsimp [ha, d1, d2, d3, d4, d5, d6, d7, hlt, hx2, n34, h45, tkR]) | (refine wpcall_d (hS) ?_; simp -implicitDefEqProofs -dsimp [ha, d1, d2, d3, d4, d5, d6, d7, hlt, hx2, n34, h45, tkR]) | (refine wpcall_d (hSg) ?_; simp -implicitDefEqProofs -dsimp [ha, d1, d2, d3, d4, d5, d6, d7, hlt, hx2, n34, h45, tkR]) | (refine wpcall_d (hN) ?_; simp -implicitDefEqProofs -dsimp [ha, d1, d2, d3, d4, d5, d6, d7, hlt, hx2, n34, h45, tkR]) | (refine wpcall_d (hDg) ?_; simp -implicitDefEqProofs -dsimp [ha, d1, d2, d3, d4, d5, d6, d7, hlt, hx2, n34, h45, tkR]))
     ·have hdg : isDg x = true := by rcases hnum with h | h; exact absurd h h45; exact h
      have n45 : ¬ (x.toNat : Int) = 45 := by omega
      rw [hdg] at hDg
      rcases hok with rfl | rfl | rfl
      all_goals
       simp at hR; subst hR
       refine Fn_of Tryz.func79 rfl rfl (by simp -implicitDefEqProofs -dsimp) rfl ?_; simp only [Tryz.f79]
       simp -implicitDefEqProofs -dsimp [ha, d1, d2, d3, d4, d5, d6, d7, hlt, hx2, n34, n45, tkR]; repeat' (first | with_reducible intro _ | with_reducible apply And.intro | (refine chkOk ?_; kernel_rfl) | (refine wpcall_d (iwithin) ?_; simp -implicitDefEqProofs -dsimp [ha, d1, d2, d3, d4, d5, d6, d7, hlt, hx2, n34, n45, tkR]) | (refine wpcall_d (hS) ?_; simp -implicitDefEqProofs -dsimp [ha, d1, d2, d3, d4, d5, d6, d7, hlt, hx2, n34, n45, tkR]) | (refine wpcall_d (hSg) ?_; simp -implicitDefEqProofs -dsimp [ha, d1, d2, d3, d4, d5, d6, d7, hlt, hx2, n34, n45, tkR]) | (refine wpcall_d (hN) ?_; simp -implicitDefEqProofs -dsimp [ha, d1, d2, d3, d4, d5, d6, d7, hlt, hx2, n34, n45, tkR]) | (refine wpcall_d (hDg) ?_; simp -implicitDefEqProofs -dsimp [ha, d1, d2, d3, d4, d5, d6, d7, hlt, hx2, n34, n45, tkR]))
    ·rw [if_neg hnum] at hR
     have n45 : ¬ (x.toNat : Int) = 45 := by omega
     have hdg : isDg x = false := by rw [Bool.eq_false_iff]; exact fun h => hnum (.inr h)
     rw [hdg] at hDg
     have d8 : (e : Int) ≤ l.length := by omega
     refine Fn_of Tryz.func79 rfl rfl (by simp -implicitDefEqProofs -dsimp) rfl ?_; simp only [Tryz.f79]
     simp -implicitDefEqProofs -dsimp [ha, d1, d2, d3, d4, d5, d6, d7, hlt, hx2, n34, n45]; repeat' (first | with_reducible intro _ | with_reducible apply And.intro | (refine chkOk ?_; kernel_rfl) | (refine wpcall_d (iwithin) ?_; simp -implicitDefEqProofs -dsimp [ha, d1, d2, d3, d4, d5, d6, d7, hlt, hx2, n34, n45]) | (refine wpcall_d (hS) ?_; simp -implicitDefEqProofs -dsimp [ha, d1, d2, d3, d4, d5, d6, d7, hlt, hx2, n34, n45]) | (refine wpcall_d (hSg) ?_; simp -implicitDefEqProofs -dsimp [ha, d1, d2, d3, d4, d5, d6, d7, hlt, hx2, n34, n45]) | (refine wpcall_d (hDg) ?_; simp -implicitDefEqProofs -dsimp [ha, d1, d2, d3, d4, d5, d6, d7, hlt, hx2, n34, n45]))
     refine WL_loop (fun k : Nat => [(0, T l), (1, I e), (4, zTk), (5, I 0), (6, I 0), (94, .row true 9 [T wNull, T wTrue, T wFalse]), (95, I 3), (96, I k)]) (fun k => 3 - k) (fun k => k ≤ 3 ∧ ∀ j, j < k → startsAt l e (wK j) = false) 0 ⟨by omega, fun j h => by omega⟩ ?_ ?_
     ·simp -implicitDefEqProofs -dsimp
     ·rintro k ⟨hk, hno⟩
      by_cases hk3 : k = 3
      ·subst hk3
       rw [wordP_no hno] at hR; subst hR
       simp -implicitDefEqProofs -dsimp [-head_L, tkR]
      ·have hP := lHasPrefix (s := ⟨(l.drop e).toArray⟩) (p := ⟨(wK k).toArray⟩)
       rw [show Lib.hasPrefix (ByteArray.mk (l.drop e).toArray).data.toList (ByteArray.mk (wK k).toArray).data.toList = startsAt l e (wK k) from rfl] at hP
       have hk2 : k = 0 ∨ k = 1 ∨ k = 2 := by omega
       cases hs : startsAt l e (wK k) with
       | true =>
        rw [wordP_k (by omega) hno hs] at hR; subst hR
        rw [hs] at hP
        clear hs hno
        have f1 : wrK .i64 ((e : Int) + 4) = e + 4 := wrap64_id _ (by omega)
        have f2 : wrK .i64 ((e : Int) + 5) = e + 5 := wrap64_id _ (by omega)
        rcases hk2 with rfl | rfl | rfl
        all_goals
         simp -implicitDefEqProofs -dsimp [-head_L, d8]
         refine wpcall_d hP ?_; simp -implicitDefEqProofs -dsimp [-head_L, tkR, wK, f1, f2]
       | false =>
        have hnx : ∀ j, j < k + 1 → startsAt l e (wK j) = false := fun j hj => by
         rcases Nat.lt_or_ge j k with h1 | h1
         ·exact hno j h1
         ·obtain rfl : j = k := by omega
          exact hs
        rw [hs] at hP
        clear hs hno
        rcases hk2 with rfl | rfl | rfl
        ·simp -implicitDefEqProofs -dsimp [-head_L, -endOk, d8]
         refine wpcall_d hP ?_; simp -implicitDefEqProofs -dsimp [-head_L, -endOk]
         refine ⟨1, ⟨by omega, hnx⟩, by omega, ?_⟩
         simp -implicitDefEqProofs -dsimp
        ·simp -implicitDefEqProofs -dsimp [-head_L, -endOk, d8]
         refine wpcall_d hP ?_; simp -implicitDefEqProofs -dsimp [-head_L, -endOk]
         refine ⟨2, ⟨by omega, hnx⟩, by omega, ?_⟩
         simp -implicitDefEqProofs -dsimp
        ·simp -implicitDefEqProofs -dsimp [-head_L, -endOk, d8]
         refine wpcall_d hP ?_; simp -implicitDefEqProofs -dsimp [-head_L, -endOk]
         refine ⟨3, ⟨by omega, hnx⟩, by omega, ?_⟩
         simp -implicitDefEqProofs -dsimp
end Go.Proofs.YtlfblkekbcfjpaaGreatDoor
namespace Go.Proofs.YtlfblkekbcfjpaaGreatDoor
open Go
set_option maxRecDepth 100000
set_option maxHeartbeats 2000000
def toksF (l : List UInt8) : Nat → Nat → Except Int (List Tok)
 | 0, _ => .error 1
 | f + 1, a => match tokP l a with
  | .error c => .error c
  | .ok (t, e) => if t.k = 0 then .ok [] else match toksF l f e with
   | .error c => .error c
   | .ok ts => .ok (t :: ts)
def toksQ (l : List UInt8) (a : Nat) : Except Int (List Tok) := toksF l (l.length + 1 - a) a
theorem tokP_len {l : List UInt8} {a : Nat} {t : Tok} {e : Nat} (ha : a ≤ l.length) (h : tokP l a = .ok (t, e)) : e ≤ l.length ∧ (t.k ≠ 0 → a < e) := by
 have h1 := skipP_le ha
 have h2 := tokAt_len h1.2 h
 exact ⟨h2.1, fun h3 => by have := h2.2.2.1 h3; omega⟩
theorem toksF_more {l : List UInt8} : ∀ (f a : Nat), a ≤ l.length → l.length + 1 - a ≤ f → toksF l f a = toksQ l a
 | 0, a, ha, h => by omega
 | f + 1, a, ha, h => by
  obtain ⟨k, hk⟩ : ∃ k, l.length + 1 - a = k + 1 := ⟨l.length - a, by omega⟩
  unfold toksQ; rw [hk]
  unfold toksF
  cases h1 : tokP l a with
  | error c => rfl
  | ok p =>
   obtain ⟨t, e⟩ := p
   have h2 := tokP_len ha h1
   simp only
   split
   ·rfl
   ·rename_i h3
    have := h2.2 h3
    rw [toksF_more f e h2.1 (by omega), toksF_more k e h2.1 (by omega)]
def tApp (acc : List Tok) : Except Int (List Tok) → Except Int (List Tok)
 | .error c => .error c
 | .ok ts => .ok (acc ++ ts)
theorem tApp_nil (o : Except Int (List Tok)) : tApp [] o = o := by cases o <;> rfl
theorem toksQ_err {l : List UInt8} {a : Nat} {c : Int} (ha : a ≤ l.length) (h : tokP l a = .error c) : toksQ l a = .error c := by
 obtain ⟨k, hk⟩ : ∃ k, l.length + 1 - a = k + 1 := ⟨l.length - a, by omega⟩
 unfold toksQ; rw [hk]; unfold toksF; rw [h]
theorem toksQ_end {l : List UInt8} {a e : Nat} {t : Tok} (ha : a ≤ l.length) (h : tokP l a = .ok (t, e)) (h0 : t.k = 0) : toksQ l a = .ok [] := by
 obtain ⟨k, hk⟩ : ∃ k, l.length + 1 - a = k + 1 := ⟨l.length - a, by omega⟩
 unfold toksQ; rw [hk]; unfold toksF; rw [h]; simp only; rw [if_pos h0]
theorem toksQ_step {l : List UInt8} {a e : Nat} {t : Tok} (ha : a ≤ l.length) (h : tokP l a = .ok (t, e)) (h0 : ¬ t.k = 0) (acc : List Tok) : tApp acc (toksQ l a) = tApp (acc ++ [t]) (toksQ l e) := by
 have h2 := tokP_len ha h
 obtain ⟨k, hk⟩ : ∃ k, l.length + 1 - a = k + 1 := ⟨l.length - a, by omega⟩
 have h3 := h2.2 h0
 conv => lhs; unfold toksQ
 rw [hk]; unfold toksF; rw [h]; simp only; rw [if_neg h0, toksF_more k e h2.1 (by omega)]
 cases toksQ l e <;> simp -implicitDefEqProofs -dsimp [tApp]
theorem numP_code {l : List UInt8} {a : Nat} (h : a < l.length) : (numP l a).2.2.2 = 0 ∨ (numP l a).2.2.2 = 1 ∨ (numP l a).2.2.2 = 2 := (numP_ok h).1
theorem tokP_err {l : List UInt8} {a : Nat} {c : Int} (ha : a ≤ l.length) (h : tokP l a = .error c) : c = 1 ∨ c = 2 := by
 unfold tokP at h
 have he := (skipP_le ha).2
 generalize skipP l a = e at *
 unfold tokAt at h
 split at h
 ·cases h
 ·rename_i hlt
  split at h
  ·cases h
  ·split at h
   ·cases hs : strQ l (e + 1) with
    | none => rw [hs] at h; cases h; simp -implicitDefEqProofs -dsimp
    | some p => rw [hs] at h; cases h
   ·split at h
    ·split at h
     ·cases h
     ·rename_i h0
      have := numP_code (l := l) (a := e) (by omega)
      cases h; omega
    ·unfold wordP at h
     repeat' split at h
     all_goals (cases h; try simp -implicitDefEqProofs -dsimp)
theorem toks_len {l : List UInt8} : ∀ (f a : Nat) {ts : List Tok}, a ≤ l.length → toksF l f a = .ok ts → ts.length + a ≤ l.length
 | 0, a, ts, ha, h => by cases h
 | f + 1, a, ts, ha, h => by
  unfold toksF at h
  cases h1 : tokP l a with
  | error c => rw [h1] at h; cases h
  | ok p =>
   obtain ⟨t, e⟩ := p
   have h2 := tokP_len ha h1
   rw [h1] at h; simp only at h
   split at h
   ·cases h; simpa using ha
   ·rename_i h3
    have h4 := h2.2 h3
    cases h5 : toksF l f e with
    | error c => rw [h5] at h; cases h
    | ok us =>
     rw [h5] at h; cases h
     have := toks_len f e h2.1 h5
     simp -implicitDefEqProofs -dsimp; omega
def tksV (n : V) : Except Int (List Tok) → V
 | .ok ts => .row true 74 (ts.map tkV)
 | .error _ => n
def codeE {α : Type} : Except Int α → Int
 | .ok _ => 0
 | .error c => c
theorem sTokens {l : List UInt8} (hl : l.length ≤ 1073741824) : Fn Tryz.prog 50 [T l] [.un] [tksV (.row true 74 []) (toksQ l 0), I (codeE (toksQ l 0))] := by
 generalize hR : toksQ l 0 = R
 refine Fn_of Tryz.func50 rfl rfl (by simp -implicitDefEqProofs -dsimp) rfl ?_; simp only [Tryz.f50]
 simp -implicitDefEqProofs -dsimp
 refine WL_loop (fun p : List Tok × Nat => [(0, T l), (2, .nil), (3, I 0), (4, .row true 74 (p.1.map tkV)), (5, I p.2)]) (fun p => l.length - p.2) (fun p => p.2 ≤ l.length ∧ p.1.length ≤ p.2 ∧ tApp p.1 (toksQ l p.2) = R) ([], 0) ⟨Nat.zero_le _, Nat.zero_le _, by rw [tApp_nil]; exact hR⟩ ?_ ?_
 ·simp -implicitDefEqProofs -dsimp
 ·clear hR
  rintro ⟨ts, a⟩ ⟨ha, hlen, hR⟩
  simp only at ha hlen hR ⊢
  have hT := sReadToken hl ha
  cases ht : tokP l a with
  | error c =>
   rw [ht] at hT
   rw [toksQ_err ha ht] at hR; subst hR
   have hc := tokP_err ha ht
   have hc0 : ¬ c = 0 := by omega
   simp -implicitDefEqProofs -dsimp [tkR] at hT
   simp -implicitDefEqProofs -dsimp [-head_L]
   refine wpcall_d hT ?_; simp -implicitDefEqProofs -dsimp [-head_L, hc0, tApp, tksV, codeE]
  | ok p =>
   obtain ⟨t, e⟩ := p
   rw [ht] at hT
   simp -implicitDefEqProofs -dsimp [tkR] at hT
   have hl2 := tokP_len ha ht
   by_cases h0 : t.k = 0
   ·rw [toksQ_end ha ht h0] at hR; subst hR
    simp -implicitDefEqProofs -dsimp [-head_L]
    refine wpcall_d hT ?_; simp -implicitDefEqProofs -dsimp [-head_L, h0, tApp, tksV, codeE]
   ·rw [toksQ_step ha ht h0] at hR
    have h3 := hl2.2 h0
    have hb : (ts.length + 1) * 40 ≤ 1099511627776 := by omega
    simp -implicitDefEqProofs -dsimp [-head_L, -endOk]
    refine wpcall_d hT ?_; simp -implicitDefEqProofs -dsimp [-head_L, -endOk, h0, hb]
    refine ⟨ts ++ [t], e, ⟨hl2.1, by simp -implicitDefEqProofs -dsimp; omega, hR⟩, by omega, ?_⟩
    simp -implicitDefEqProofs -dsimp
theorem iTokens {l : List UInt8} (hl : l.length ≤ 1073741824) : Fn Tryz.prog 56 [T l] [.un] [tksV .nil (toksQ l 0), I (codeE (toksQ l 0))] := by
 generalize hR : toksQ l 0 = R
 refine Fn_of Tryz.func56 rfl rfl (by simp -implicitDefEqProofs -dsimp) rfl ?_; simp only [Tryz.f56]
 simp -implicitDefEqProofs -dsimp
 refine WL_loop (fun p : List Tok × Nat => [(0, T l), (2, .nil), (3, I 0), (4, .row true 74 (p.1.map tkV)), (5, I p.2)]) (fun p => l.length - p.2) (fun p => p.2 ≤ l.length ∧ p.1.length ≤ p.2 ∧ tApp p.1 (toksQ l p.2) = R) ([], 0) ⟨Nat.zero_le _, Nat.zero_le _, by rw [tApp_nil]; exact hR⟩ ?_ ?_
 ·simp -implicitDefEqProofs -dsimp
 ·clear hR
  rintro ⟨ts, a⟩ ⟨ha, hlen, hR⟩
  simp only at ha hlen hR ⊢
  have hT := iReadToken hl ha
  cases ht : tokP l a with
  | error c =>
   rw [ht] at hT
   rw [toksQ_err ha ht] at hR; subst hR
   have hc := tokP_err ha ht
   have hc0 : ¬ c = 0 := by omega
   simp -implicitDefEqProofs -dsimp [tkR] at hT
   simp -implicitDefEqProofs -dsimp [-head_L]
   refine wpcall_d hT ?_; simp -implicitDefEqProofs -dsimp [-head_L, hc0, tApp, tksV, codeE]
  | ok p =>
   obtain ⟨t, e⟩ := p
   rw [ht] at hT
   simp -implicitDefEqProofs -dsimp [tkR] at hT
   have hl2 := tokP_len ha ht
   by_cases h0 : t.k = 0
   ·rw [toksQ_end ha ht h0] at hR; subst hR
    simp -implicitDefEqProofs -dsimp [-head_L]
    refine wpcall_d hT ?_; simp -implicitDefEqProofs -dsimp [-head_L, h0, tApp, tksV, codeE]
   ·rw [toksQ_step ha ht h0] at hR
    have h3 := hl2.2 h0
    have hb : (ts.length + 1) * 40 ≤ 1099511627776 := by omega
    simp -implicitDefEqProofs -dsimp [-head_L, -endOk]
    refine wpcall_d hT ?_; simp -implicitDefEqProofs -dsimp [-head_L, -endOk, h0, hb]
    refine ⟨ts ++ [t], e, ⟨hl2.1, by simp -implicitDefEqProofs -dsimp; omega, hR⟩, by omega, ?_⟩
    simp -implicitDefEqProofs -dsimp
end Go.Proofs.YtlfblkekbcfjpaaGreatDoor
