/- Part of a proof: contracts and plain laws. -/
import Derived.Test.YtlfblkekbcfjpaaGreatDoorZ42
import Derived.Test.YtlfblkekbcfjpaaGreatDoorZ37
import Derived.Test.YtlfblkekbcfjpaaGreatDoorZ34
set_option linter.unusedVariables false
set_option linter.unusedSimpArgs false
namespace Go.Proofs.YtlfblkekbcfjpaaGreatDoor
open Go
set_option maxRecDepth 100000
set_option maxHeartbeats 4000000
def exS : Except Int (List UInt8 × Int) → List UInt8
 | .ok v => v.1
 | .error _ => []
def exE {α : Type} : Except Int (α × Int) → Int
 | .ok v => v.2
 | .error _ => 0
theorem s14End {b : List UInt8} {e : Int} (hb : b.length ≤ 1099511627776) : Fn Tryz.prog 100 [Y b, I e] [.un, .un] [B (endB b e)] := by
 unfold endB
 by_cases h : 0 ≤ e ∧ e < b.length
 ·obtain ⟨a, rfl⟩ : ∃ a : Nat, e = a := ⟨e.toNat, by omega⟩
  have ha : a < b.length := by omega
  have hx : b[a]? = some b[a] := List.getElem?_eq_getElem ha
  by_cases hx2 : b[a] = 255
  ·refine Fn_of Tryz.func100 rfl rfl (by simp -implicitDefEqProofs -dsimp) rfl ?_; simp only [Tryz.f100]
   simp -implicitDefEqProofs -dsimp [ha, hx2]
  ·have hx3 : ¬ (b[a].toNat : Int) = 255 := fun h => hx2 (UInt8.toNat_inj.1 (by simpa using (Int.ofNat.inj h)))
   refine Fn_of Tryz.func100 rfl rfl (by simp -implicitDefEqProofs -dsimp) rfl ?_; simp only [Tryz.f100]
   simp -implicitDefEqProofs -dsimp [ha, hx2, hx3]
 ·by_cases h0 : 0 ≤ e
  ·have h1 : ¬ e < b.length := by omega
   have h2 : b[e.toNat]? = none := List.getElem?_eq_none (by omega)
   rw [h2]
   refine Fn_of Tryz.func100 rfl rfl (by simp -implicitDefEqProofs -dsimp) rfl ?_; simp only [Tryz.f100]
   simp -implicitDefEqProofs -dsimp [h0, h1, h2]
  ·refine Fn_of Tryz.func100 rfl rfl (by simp -implicitDefEqProofs -dsimp) rfl ?_; simp only [Tryz.f100]
   simp -implicitDefEqProofs -dsimp [h0]
   rcases b[e.toNat]? with _ | x <;> simp -implicitDefEqProofs -dsimp [nth]
theorem s14Str {b : List UInt8} {e m n w : Int} (hb : b.length ≤ 1099511627776) : Fn Tryz.prog 67 [Y b, I e, .ag [I m, I n, I w]] [.un, .un, .un] [T (exS (strB b e m n)), I (exE (strB b e m n)), I (codeE (strB b e m n))] := by
 unfold strB
 by_cases h : existP b e n = true
 ·have hs := sSlice (a := e) (n := n) hb
  have h2 := existP_iff.1 h
  rw [if_pos h, h] at hs
  obtain ⟨l, hl⟩ : ∃ l, (b.drop e.toNat).take n.toNat = l := ⟨_, rfl⟩
  have hll : l.length ≤ b.length := by rw [← hl]; simp -implicitDefEqProofs -dsimp; omega
  have hw : wrK .i64 (e + n) = e + n := wrap64_id _ (by omega)
  rw [hl] at hs ⊢
  have ht := sTextOk (s := Bs l) (by simp -implicitDefEqProofs -dsimp; omega)
  by_cases h3 : m = 3
  ·cases ht2 : textOkP (Bs l)
   ·rw [ht2] at ht
    rw [if_neg (by simp -implicitDefEqProofs -dsimp [h3, ht2])]
    refine Fn_of Tryz.func67 rfl rfl (by simp -implicitDefEqProofs -dsimp) rfl ?_; simp only [Tryz.f67]
    simp -implicitDefEqProofs -dsimp
    repeat' (first | with_reducible intro _ | with_reducible apply And.intro | (refine chkOk ?_; kernel_rfl) | (refine wpcall_d (hs) ?_; simp -implicitDefEqProofs -dsimp [h3, exS, exE, codeE]) | (refine wpcall_d (ht) ?_; simp -implicitDefEqProofs -dsimp [h3, exS, exE, codeE]))
    all_goals (intros; rename_i x _; have := x.toNat_lt; omega)
   ·rw [ht2] at ht
    rw [if_pos (by simp -implicitDefEqProofs -dsimp [h, ht2])]
    refine Fn_of Tryz.func67 rfl rfl (by simp -implicitDefEqProofs -dsimp) rfl ?_; simp only [Tryz.f67]
    simp -implicitDefEqProofs -dsimp
    repeat' (first | with_reducible intro _ | with_reducible apply And.intro | (refine chkOk ?_; kernel_rfl) | (refine wpcall_d (hs) ?_; simp -implicitDefEqProofs -dsimp [h3, hw, exS, exE, codeE]) | (refine wpcall_d (ht) ?_; simp -implicitDefEqProofs -dsimp [h3, hw, exS, exE, codeE]))
    all_goals (intros; rename_i x _; have := x.toNat_lt; omega)
  ·rw [if_pos (by simp -implicitDefEqProofs -dsimp [h, h3])]
   refine Fn_of Tryz.func67 rfl rfl (by simp -implicitDefEqProofs -dsimp) rfl ?_; simp only [Tryz.f67]
   simp -implicitDefEqProofs -dsimp
   refine wpcall_d hs ?_; simp -implicitDefEqProofs -dsimp [h3]
   refine WC_nr [B false] (by simp -implicitDefEqProofs -dsimp) ?_; simp -implicitDefEqProofs -dsimp [h3, hw, exS, exE, codeE]
   refine ⟨fun x _ => by have := x.toNat_lt; omega, ?_⟩
   refine chkOk ?_; kernel_rfl
 ·have hs := sSlice (a := e) (n := n) hb
  have h' : existP b e n = false := by simpa using h
  rw [if_neg h, h'] at hs
  rw [if_neg (by simp -implicitDefEqProofs -dsimp [h'])]
  refine Fn_of Tryz.func67 rfl rfl (by simp -implicitDefEqProofs -dsimp) rfl ?_; simp only [Tryz.f67]
  simp -implicitDefEqProofs -dsimp
  refine wpcall_d hs ?_; simp -implicitDefEqProofs -dsimp
  refine WC_nr [B false] (by simp -implicitDefEqProofs -dsimp) ?_; simp -implicitDefEqProofs -dsimp [exS, exE, codeE]
theorem s14Simple {n w e : Int} (hn : 0 ≤ n ∧ n ≤ 1000000000000000) : Fn Tryz.prog 69 [.ag [I 7, I n, I w]] [.un] [vF 27 (exG ((simpleP n w e).map Prod.fst)), I (codeE (simpleP n w e))] := by
 generalize hR : simpleP n w e = R
 unfold simpleP at hR
 by_cases h1 : w = 0
 ·subst h1
  by_cases a1 : n = 20
  ·subst a1; simp at hR; subst hR
   refine Fn_of Tryz.func69 rfl rfl (by simp -implicitDefEqProofs -dsimp) rfl ?_; simp only [Tryz.f69]
   simp -implicitDefEqProofs -dsimp [vF, exG, codeE, Except.map]
  ·by_cases a2 : n = 21
   ·subst a2; simp at hR; subst hR
    refine Fn_of Tryz.func69 rfl rfl (by simp -implicitDefEqProofs -dsimp) rfl ?_; simp only [Tryz.f69]
    simp -implicitDefEqProofs -dsimp [vF, exG, codeE, Except.map]
   ·by_cases a3 : n = 22
    ·subst a3; simp at hR; subst hR
     refine Fn_of Tryz.func69 rfl rfl (by simp -implicitDefEqProofs -dsimp) rfl ?_; simp only [Tryz.f69]
     simp -implicitDefEqProofs -dsimp [vF, exG, codeE, Except.map]
    ·simp -implicitDefEqProofs -dsimp [a1, a2, a3] at hR; subst hR
     refine Fn_of Tryz.func69 rfl rfl (by simp -implicitDefEqProofs -dsimp) rfl ?_; simp only [Tryz.f69]
     simp -implicitDefEqProofs -dsimp [a1, a2, a3]
     refine WC_nr [B false] (by simp -implicitDefEqProofs -dsimp) ?_; simp -implicitDefEqProofs -dsimp [vF, exG, zeroG, codeE, Except.map]
 ·by_cases h2 : w = 1
  ·subst h2
   have hI := sIn (n := n) (lo := 32) (hi := 34)
   by_cases a1 : 32 ≤ n ∧ n ≤ 34
   ·rw [decide_eq_true a1.1, decide_eq_true a1.2] at hI
    simp -implicitDefEqProofs -dsimp [a1] at hR; subst hR
    have hw : wrK .i64 (n - 32) = n - 32 := wrap64_id _ (by omega)
    refine Fn_of Tryz.func69 rfl rfl (by simp -implicitDefEqProofs -dsimp) rfl ?_; simp only [Tryz.f69]
    simp -implicitDefEqProofs -dsimp
    repeat' (first | with_reducible intro _ | with_reducible apply And.intro | (refine chkOk ?_; kernel_rfl) | (refine wpcall_d (hI) ?_; simp -implicitDefEqProofs -dsimp [vF, exG, codeE, Except.map, hw]))
   ·have hd : (decide (32 ≤ n) && decide (n ≤ 34)) = false := by simp -implicitDefEqProofs -dsimp; omega
    rw [hd] at hI
    simp -implicitDefEqProofs -dsimp [a1] at hR; subst hR
    refine Fn_of Tryz.func69 rfl rfl (by simp -implicitDefEqProofs -dsimp) rfl ?_; simp only [Tryz.f69]
    simp -implicitDefEqProofs -dsimp
    repeat' (first | with_reducible intro _ | with_reducible apply And.intro | (refine chkOk ?_; kernel_rfl) | (refine wpcall_d (hI) ?_; simp -implicitDefEqProofs -dsimp [vF, exG, zeroG, codeE, Except.map]))
  ·by_cases h4 : w = 4
   ·subst h4
    have hB := sBitsFlt (n := n)
    simp at hR
    rcases hf : bitsFltP n with _ | ⟨x, y⟩
    ·rw [hf] at hB hR; simp -implicitDefEqProofs -dsimp [optF] at hB hR; subst hR
     refine Fn_of Tryz.func69 rfl rfl (by simp -implicitDefEqProofs -dsimp) rfl ?_; simp only [Tryz.f69]
     simp -implicitDefEqProofs -dsimp
     refine WC_nr [B false] (by simp -implicitDefEqProofs -dsimp) ?_; simp -implicitDefEqProofs -dsimp
     repeat' (first | with_reducible intro _ | with_reducible apply And.intro | (refine chkOk ?_; kernel_rfl) | (refine wpcall_d (hB) ?_; simp -implicitDefEqProofs -dsimp [vF, exG, zeroG, codeE, Except.map]))
    ·rw [hf] at hB hR; simp -implicitDefEqProofs -dsimp [optF] at hB hR; subst hR
     refine Fn_of Tryz.func69 rfl rfl (by simp -implicitDefEqProofs -dsimp) rfl ?_; simp only [Tryz.f69]
     simp -implicitDefEqProofs -dsimp
     refine WC_nr [B false] (by simp -implicitDefEqProofs -dsimp) ?_; simp -implicitDefEqProofs -dsimp
     repeat' (first | with_reducible intro _ | with_reducible apply And.intro | (refine chkOk ?_; kernel_rfl) | (refine wpcall_d (hB) ?_; simp -implicitDefEqProofs -dsimp [vF, exG, codeE, Except.map]) | (refine wpcall_d (sFltVal) ?_; simp -implicitDefEqProofs -dsimp [vF, exG, codeE, Except.map]))
   ·simp -implicitDefEqProofs -dsimp [h1, h2, h4] at hR; subst hR
    refine Fn_of Tryz.func69 rfl rfl (by simp -implicitDefEqProofs -dsimp) rfl ?_; simp only [Tryz.f69]
    simp -implicitDefEqProofs -dsimp [h1, h2, h4]
    refine WC_nr [B false] (by simp -implicitDefEqProofs -dsimp) ?_; simp -implicitDefEqProofs -dsimp [h4, vF, exG, zeroG, codeE, Except.map]
end Go.Proofs.YtlfblkekbcfjpaaGreatDoor
namespace Go.Proofs.YtlfblkekbcfjpaaGreatDoor
open Go
set_option maxRecDepth 100000
set_option maxHeartbeats 4000000
theorem endB_head {b : List UInt8} {e : Int} (h : endB b e = true) : getHeadP b e = ((7, 0, -1), e + 1, 0) := by
 unfold endB at h
 simp at h
 obtain ⟨a, rfl⟩ : ∃ a : Nat, e = a := ⟨e.toNat, by omega⟩
 have hx : b[a]? = some 255 := by simpa using h.2
 rw [getHeadP_at hx]
 have e1 : ((255 : UInt8).toNat : Int) / 32 = 7 := by decide
 have e2 : ((255 : UInt8).toNat : Int) % 32 = 31 := by decide
 rw [e1, e2]
 simp -implicitDefEqProofs -dsimp [headAt]
theorem strB_ok {b : List UInt8} {e m n : Int} {s : List UInt8} {e' : Int} (h : strB b e m n = .ok (s, e')) : 0 ≤ n ∧ 0 ≤ e ∧ e' = e + n ∧ e' ≤ b.length ∧ (s.length : Int) = n := by
 unfold strB at h
 split at h
 ·rename_i hh
  have h2 := existP_iff.1 hh.1
  cases h
  simp -implicitDefEqProofs -dsimp; omega
 ·cases h
theorem strB_err {b : List UInt8} {e m n c : Int} (h : strB b e m n = .error c) : c = 1 := by
 unfold strB at h
 split at h
 ·cases h
 ·cases h; rfl
theorem partsF_eq {b : List UInt8} {m : Int} : ∀ (f g : Nat) (e : Int), b.length + 1 - e.toNat ≤ f → b.length + 1 - e.toNat ≤ g → partsF b m f e = partsF b m g e := by
 have key : ∀ (g : Nat) (e : Int), b.length < e.toNat → partsF b m g e = .error 1 := by
  intro g e h
  cases g with
  | zero => rfl
  | succ g =>
   unfold partsF
   have h1 : endB b e = false := by
    cases hE : endB b e with
    | false => rfl
    | true => have := head_ok (endB_head hE); omega
   rw [getHeadP_no (by omega)]
   simp -implicitDefEqProofs -dsimp [h1]
 intro f
 induction f with
 | zero => intro g e h1 h2; rw [key 0 e (by omega), key g e (by omega)]
 | succ f ih =>
  intro g e h1 h2
  cases g with
  | zero => rw [key _ e (by omega), key _ e (by omega)]
  | succ g =>
   unfold partsF
   rcases hh : getHeadP b e with ⟨⟨m', n, w⟩, e1, c⟩
   simp only
   by_cases hc : c = 0
   ·subst hc
    have ho := head_ok hh
    cases hs : strB b e1 m n with
    | error c => rfl
    | ok p =>
     obtain ⟨s, e2⟩ := p
     have h3 := strB_ok hs
     simp only
     rw [ih g e2 (by omega) (by omega)]
   ·simp -implicitDefEqProofs -dsimp [hc]
def pApp (acc : List UInt8) : Except Int (List UInt8 × Int) → Except Int (List UInt8 × Int)
 | .error c => .error c
 | .ok (s, e) => .ok (acc ++ s, e)
theorem pApp_nil (o : Except Int (List UInt8 × Int)) : pApp [] o = o := by rcases o with _ | ⟨_, _⟩ <;> rfl
theorem partsQ_end {b : List UInt8} {m e : Int} (h : endB b e = true) : partsQ b m e = .ok ([], e + 1) := by
 have h1 := head_ok (endB_head h)
 obtain ⟨k, hk⟩ : ∃ k, b.length + 1 - e.toNat = k + 1 := ⟨b.length - e.toNat, by omega⟩
 unfold partsQ; rw [hk]; unfold partsF; rw [if_pos h]
theorem partsQ_head {b : List UInt8} {m e : Int} (h : ¬ (getHeadP b e).2.2 = 0) : partsQ b m e = .error (getHeadP b e).2.2 := by
 have h1 : ¬ endB b e = true := fun hE => by rw [endB_head hE] at h; simp at h
 have h2 := partsF_eq (b := b) (m := m) (b.length + 1 - e.toNat) (b.length + 1 - e.toNat + 1) e (Nat.le_refl _) (by omega)
 unfold partsQ; rw [h2]; unfold partsF; rw [if_neg h1, if_pos h]
theorem partsQ_form {b : List UInt8} {m m' n w e e1 : Int} (h : getHeadP b e = ((m', n, w), e1, 0)) (hE : ¬ endB b e = true) (hf : m' ≠ m ∨ w < 0) : partsQ b m e = .error 1 := by
 have h2 := partsF_eq (b := b) (m := m) (b.length + 1 - e.toNat) (b.length + 1 - e.toNat + 1) e (Nat.le_refl _) (by omega)
 unfold partsQ; rw [h2]; unfold partsF; rw [if_neg hE, h]; simp -implicitDefEqProofs -dsimp [hf]
theorem partsQ_serr {b : List UInt8} {m n w e e1 c : Int} (h : getHeadP b e = ((m, n, w), e1, 0)) (hE : ¬ endB b e = true) (hf : ¬ w < 0) (hs : strB b e1 m n = .error c) : partsQ b m e = .error c := by
 have h2 := partsF_eq (b := b) (m := m) (b.length + 1 - e.toNat) (b.length + 1 - e.toNat + 1) e (Nat.le_refl _) (by omega)
 unfold partsQ; rw [h2]; unfold partsF; rw [if_neg hE, h]; simp -implicitDefEqProofs -dsimp [hf, hs]
theorem partsQ_step {b : List UInt8} {m n w e e1 e2 : Int} {s : List UInt8} (h : getHeadP b e = ((m, n, w), e1, 0)) (hE : ¬ endB b e = true) (hf : ¬ w < 0) (hs : strB b e1 m n = .ok (s, e2)) (acc : List UInt8) : pApp acc (partsQ b m e) = pApp (acc ++ s) (partsQ b m e2) := by
 have ho := head_ok h
 have h3 := strB_ok hs
 have h4 : partsQ b m e = partsF b m (b.length + 1 - e.toNat + 1) e := partsF_eq _ _ e (Nat.le_refl _) (by omega)
 have h5 : partsF b m (b.length + 1 - e.toNat) e2 = partsQ b m e2 := partsF_eq _ _ e2 (by omega) (Nat.le_refl _)
 rw [h4]; unfold partsF; rw [if_neg hE, h]; simp only [ne_eq, not_true_eq_false, if_false, hf, or_self, hs, h5]
 rcases partsQ b m e2 with _ | ⟨t, e3⟩ <;> simp -implicitDefEqProofs -dsimp [pApp]
theorem s14Parts {b : List UInt8} {e m : Int} (hb : b.length ≤ 1073741824) (he : 0 ≤ e ∧ e ≤ b.length) : Fn Tryz.prog 68 [Y b, I e, I m] [.un, .un, .un] [T (exS (partsQ b m e)), I (exE (partsQ b m e)), I (codeE (partsQ b m e))] := by
 generalize hR : partsQ b m e = R
 refine Fn_of Tryz.func68 rfl rfl (by simp -implicitDefEqProofs -dsimp) rfl ?_; simp only [Tryz.f68]
 simp -implicitDefEqProofs -dsimp
 refine WL_loop (fun p : List UInt8 × Int => [(0, Y b), (1, I p.2), (2, I m), (6, T []), (7, I 0), (8, I 0), (9, T p.1)]) (fun p => b.length - p.2.toNat) (fun p => 0 ≤ p.2 ∧ p.2 ≤ b.length ∧ p.1.length ≤ p.2 ∧ pApp p.1 (partsQ b m p.2) = R) ([], e) ⟨he.1, he.2, he.1, by rw [pApp_nil]; exact hR⟩ ?_ ?_
 ·simp -implicitDefEqProofs -dsimp
 ·clear hR he e
  rintro ⟨acc, e⟩ ⟨h0, ha, hlen, hR⟩
  simp only at h0 ha hlen hR ⊢
  have hH := sGetHead (b := b) (at_ := e) (by omega)
  rcases hh : getHeadP b e with ⟨⟨m', n, w⟩, e1, c⟩
  rw [hh] at hH; simp only at hH
  by_cases hc : c = 0
  ·subst hc
   have ho := head_ok hh
   by_cases hE : endB b e = true
   ·have h2 := ho.2.2.2.2.2.2.2.2.2.1 hE
    have hE2 := endB_head hE
    rw [hh] at hE2; simp at hE2
    rw [partsQ_end hE] at hR; subst hR
    simp -implicitDefEqProofs -dsimp [-head_L]
    refine wpcall_d hH ?_; simp -implicitDefEqProofs -dsimp [-head_L, h2.1, h2.2, hE2, pApp, exS, exE, codeE]
   ·have h2 : ¬ (w < 0 ∧ m' = 7) := fun h => hE (ho.2.2.2.2.2.2.2.2.2.2 h)
    by_cases hf : m' ≠ m ∨ w < 0
    ·rw [partsQ_form hh hE hf] at hR; subst hR
     by_cases hw : w < 0
     ·have h3 : ¬ m' = 7 := fun h => h2 ⟨hw, h⟩
      simp -implicitDefEqProofs -dsimp [-head_L]
      refine wpcall_d hH ?_; simp -implicitDefEqProofs -dsimp [-head_L, hw, h3, pApp, exS, exE, codeE]
     ·have h3 : ¬ m' = m := by omega
      simp -implicitDefEqProofs -dsimp [-head_L]
      refine wpcall_d hH ?_; simp -implicitDefEqProofs -dsimp [-head_L, hw, h3, pApp, exS, exE, codeE]
    ·obtain ⟨rfl, hw⟩ : m' = m ∧ ¬ w < 0 := by omega
     have hS := s14Str (b := b) (e := e1) (m := m') (n := n) (w := w) (by omega)
     cases hs : strB b e1 m' n with
     | error c =>
      have hc := strB_err hs; subst hc
      rw [partsQ_serr hh hE hw hs] at hR; subst hR
      rw [hs] at hS; simp -implicitDefEqProofs -dsimp [exS, exE, codeE] at hS
      simp -implicitDefEqProofs -dsimp [-head_L]
      refine wpcall_d hH ?_; simp -implicitDefEqProofs -dsimp [-head_L, hw]
      refine wpcall_d hS ?_; simp -implicitDefEqProofs -dsimp [-head_L, pApp, exS, exE, codeE]
     | ok p =>
      obtain ⟨s, e2⟩ := p
      have h3 := strB_ok hs
      rw [partsQ_step hh hE hw hs] at hR
      rw [hs] at hS; simp -implicitDefEqProofs -dsimp [exS, exE, codeE] at hS
      simp -implicitDefEqProofs -dsimp [-head_L, -endOk]
      refine wpcall_d hH ?_; simp -implicitDefEqProofs -dsimp [-head_L, -endOk, hw]
      refine wpcall_d hS ?_; simp -implicitDefEqProofs -dsimp [-head_L, -endOk]
      refine ⟨by omega, acc ++ s, e2, ⟨by omega, by omega, by simp -implicitDefEqProofs -dsimp; omega, hR⟩, by omega, ?_⟩
      simp -implicitDefEqProofs -dsimp
  ·have hP := partsQ_head (b := b) (m := m) (e := e) (by rw [hh]; exact hc)
   rw [hP, hh] at hR; subst hR
   simp -implicitDefEqProofs -dsimp [-head_L]
   refine wpcall_d hH ?_; simp -implicitDefEqProofs -dsimp [-head_L, hc, pApp, exS, exE, codeE]
end Go.Proofs.YtlfblkekbcfjpaaGreatDoor
namespace Go.Proofs.YtlfblkekbcfjpaaGreatDoor
open Go
set_option maxRecDepth 100000
set_option maxHeartbeats 4000000
theorem endB_at {b : List UInt8} {e : Int} (h : endB b e = true) : 0 ≤ e ∧ e < b.length := by
 have := head_ok (endB_head h); omega
theorem partsF_adv {b : List UInt8} {m : Int} : ∀ (f : Nat) (e : Int) {s : List UInt8} {e' : Int}, partsF b m f e = .ok (s, e') → e < e' ∧ e' ≤ b.length ∧ (s.length : Int) ≤ e' - e
 | 0, e, s, e', h => by cases h
 | f + 1, e, s, e', h => by
  unfold partsF at h
  split at h
  ·rename_i hE; have := endB_at hE; cases h; simp -implicitDefEqProofs -dsimp; omega
  ·split at h
   ·cases h
   ·rename_i hc
    split at h
    ·cases h
    ·rcases hh : getHeadP b e with ⟨⟨m', n, w⟩, e1, c⟩
     rw [hh] at h hc; simp only [ne_eq, Decidable.not_not] at h hc; subst hc
     have ho := head_ok hh
     cases hs : strB b e1 m n with
     | error c => rw [hs] at h; cases h
     | ok p =>
      obtain ⟨s1, e2⟩ := p
      have h3 := strB_ok hs
      rw [hs] at h; simp only at h
      cases hp : partsF b m f e2 with
      | error c => rw [hp] at h; cases h
      | ok q =>
       obtain ⟨t, e3⟩ := q
       have h4 := partsF_adv f e2 hp
       rw [hp] at h; cases h
       simp -implicitDefEqProofs -dsimp; omega
theorem manyP_adv {α : Type} {L : Int} {rd : Int → Except Int (α × Int)} (hrd : ∀ a v e, rd a = .ok (v, e) → a < e ∧ e ≤ L) : ∀ {n : Nat} {e e' : Int} {xs : List α}, manyP rd n e = .ok (xs, e') → e + xs.length ≤ e' ∧ (e ≤ L → e' ≤ L)
 | 0, _, _, _, h => by cases h; simp -implicitDefEqProofs -dsimp
 | n + 1, e, e', xs, h => by
  unfold manyP at h
  cases h1 : manyP rd n e with
  | error c => rw [h1] at h; cases h
  | ok p =>
   obtain ⟨ys, e1⟩ := p
   rw [h1] at h; simp only at h
   have h3 := manyP_adv hrd h1
   cases h2 : rd e1 with
   | error c => rw [h2] at h; cases h
   | ok q => rw [h2] at h; have := hrd _ _ _ h2; cases h; simp -implicitDefEqProofs -dsimp; omega
theorem openF_adv {b : List UInt8} {rd : Int → Except Int (GVal × Int)} {p : Bool} (hrd : ∀ a v e, rd a = .ok (v, e) → a < e ∧ e ≤ b.length) : ∀ (f : Nat) (o : Bool) (e : Int) {xs : List GVal} {e' : Int}, openF b rd p f o e = .ok (xs, e') → e + xs.length < e' ∧ e' ≤ b.length
 | 0, _, _, _, _, h => by cases h
 | f + 1, o, e, xs, e', h => by
  unfold openF at h
  split at h
  ·rename_i hE; have := endB_at hE
   split at h
   ·cases h
   ·cases h; simp -implicitDefEqProofs -dsimp; omega
  ·cases h1 : rd e with
   | error c => rw [h1] at h; cases h
   | ok q =>
    obtain ⟨x, e1⟩ := q
    have h2 := hrd _ _ _ h1
    rw [h1] at h; simp only at h
    cases h3 : openF b rd p f (!o) e1 with
    | error c => rw [h3] at h; cases h
    | ok r =>
     obtain ⟨ys, e2⟩ := r
     have h4 := openF_adv hrd f _ _ h3
     rw [h3] at h; cases h
     simp -implicitDefEqProofs -dsimp; omega
theorem openF_eq {b : List UInt8} {rd : Int → Except Int (GVal × Int)} {p : Bool} (hrd : ∀ a v e, rd a = .ok (v, e) → 0 ≤ a ∧ a < e ∧ e ≤ b.length) : ∀ (f g : Nat) (o : Bool) (e : Int), e ≤ b.length → b.length + 1 - e.toNat ≤ f → b.length + 1 - e.toNat ≤ g → openF b rd p f o e = openF b rd p g o e := by
 intro f
 induction f with
 | zero => intro g o e h0 h1 h2; omega
 | succ f ih =>
  intro g o e h0 h1 h2
  cases g with
  | zero => omega
  | succ g =>
   unfold openF
   cases h3 : rd e with
   | error c => rfl
   | ok q =>
    obtain ⟨x, e1⟩ := q
    have h4 := hrd _ _ _ h3
    simp only
    rw [ih g (!o) e1 (by omega) (by omega) (by omega)]
def kApp (acc : List GVal) : Except Int (List GVal × Int) → Except Int (List GVal × Int)
 | .error c => .error c
 | .ok (s, e) => .ok (acc ++ s, e)
theorem kApp_nil (o : Except Int (List GVal × Int)) : kApp [] o = o := by rcases o with _ | ⟨_, _⟩ <;> rfl
theorem openQ_end {b : List UInt8} {rd : Int → Except Int (GVal × Int)} {p o : Bool} {e : Int} (h : endB b e = true) : openQ b rd p o e = if p && o then .error 1 else .ok ([], e + 1) := by
 have h1 := endB_at h
 obtain ⟨k, hk⟩ : ∃ k, b.length + 1 - e.toNat = k + 1 := ⟨b.length - e.toNat, by omega⟩
 unfold openQ; rw [hk]; unfold openF; rw [if_pos h]
theorem openQ_err {b : List UInt8} {rd : Int → Except Int (GVal × Int)} {p o : Bool} {e c : Int} (he : e ≤ b.length) (hE : ¬ endB b e = true) (h : rd e = .error c) : openQ b rd p o e = .error c := by
 obtain ⟨k, hk⟩ : ∃ k, b.length + 1 - e.toNat = k + 1 := ⟨b.length - e.toNat, by omega⟩
 unfold openQ; rw [hk]; unfold openF; rw [if_neg hE, h]
theorem openQ_step {b : List UInt8} {rd : Int → Except Int (GVal × Int)} {p o : Bool} {e e1 : Int} {x : GVal} (hrd : ∀ a v e, rd a = .ok (v, e) → 0 ≤ a ∧ a < e ∧ e ≤ b.length) (hE : ¬ endB b e = true) (h : rd e = .ok (x, e1)) (acc : List GVal) : kApp acc (openQ b rd p o e) = kApp (acc ++ [x]) (openQ b rd p (!o) e1) := by
 have h4 := hrd _ _ _ h
 obtain ⟨k, hk⟩ : ∃ k, b.length + 1 - e.toNat = k + 1 := ⟨b.length - e.toNat, by omega⟩
 have h5 : openF b rd p k (!o) e1 = openQ b rd p (!o) e1 := openF_eq hrd _ _ _ _ (by omega) (by omega) (Nat.le_refl _)
 conv => lhs; unfold openQ
 rw [hk]; unfold openF; rw [if_neg hE, h]; simp only [h5]
 rcases openQ b rd p (!o) e1 with _ | ⟨t, e3⟩ <;> simp -implicitDefEqProofs -dsimp [kApp]
theorem simpleP_end {n w e : Int} {v : GVal} {e' : Int} (h : simpleP n w e = .ok (v, e')) : e' = e := by
 unfold simpleP at h
 repeat' split at h
 all_goals first | (cases h; rfl) | cases h
theorem tightP_adv {b : List UInt8} : ∀ (d : Nat) (a : Int) (v : GVal) (e : Int), tightP b d a = .ok (v, e) → 0 ≤ a ∧ a < e ∧ e ≤ b.length
 | 0, a, v, e, h => by cases h
 | d + 1, a, v, e', h => by
  unfold tightP at h
  split at h
  ·cases h
  ·rename_i hc
   rcases hh : getHeadP b a with ⟨⟨m, n, w⟩, e, c⟩
   rw [hh] at h hc; simp only [ne_eq, Decidable.not_not] at h hc; subst hc
   have ho := head_ok hh
   have ih := tightP_adv (b := b) d
   have hM : ∀ (k : Nat) {xs e2}, manyP (tightP b d) k e = .ok (xs, e2) → a < e2 ∧ e2 ≤ b.length := fun k xs e2 hm => by
    have := manyP_adv (L := b.length) (fun a v e h => (ih a v e h).2) hm; omega
   have hO : ∀ (p o : Bool) {xs e2}, openQ b (tightP b d) p o e = .ok (xs, e2) → a < e2 ∧ e2 ≤ b.length := fun p o xs e2 hm => by
    have := openF_adv (fun a v e h => (ih a v e h).2) _ _ _ hm; omega
   refine ⟨ho.1, ?_⟩
   unfold tightB at h
   repeat' split at h
   all_goals first
    | (cases h; omega)
    | cases h
    | (have := simpleP_end h; omega)
    | skip
   ·cases hp : partsQ b m e with
    | error c => rw [hp] at h; cases h
    | ok q => obtain ⟨s, e2⟩ := q; have := partsF_adv _ _ hp; rw [hp] at h; cases h; omega
   ·cases hp : strB b e m n with
    | error c => rw [hp] at h; cases h
    | ok q => obtain ⟨s, e2⟩ := q; have := strB_ok hp; rw [hp] at h; cases h; omega
   ·cases hp : manyP (tightP b d) 1 e with
    | error c => rw [hp] at h; cases h
    | ok q => obtain ⟨s, e2⟩ := q; have := hM _ hp; rw [hp] at h; cases h; omega
   ·cases hp : openQ b (tightP b d) true false e with
    | error c => rw [hp] at h; cases h
    | ok q => obtain ⟨s, e2⟩ := q; have := hO _ _ hp; rw [hp] at h; cases h; omega
   ·cases hp : manyP (tightP b d) (2 * n.toNat) e with
    | error c => rw [hp] at h; cases h
    | ok q => obtain ⟨s, e2⟩ := q; have := hM _ hp; rw [hp] at h; cases h; omega
   ·cases hp : openQ b (tightP b d) false false e with
    | error c => rw [hp] at h; cases h
    | ok q => obtain ⟨s, e2⟩ := q; have := hO _ _ hp; rw [hp] at h; cases h; omega
   ·cases hp : manyP (tightP b d) n.toNat e with
    | error c => rw [hp] at h; cases h
    | ok q => obtain ⟨s, e2⟩ := q; have := hM _ hp; rw [hp] at h; cases h; omega
end Go.Proofs.YtlfblkekbcfjpaaGreatDoor
namespace Go.Proofs.YtlfblkekbcfjpaaGreatDoor
open Go
set_option maxRecDepth 100000
set_option maxHeartbeats 4000000
def exV : Except Int (GVal × Int) → GVal
 | .ok v => v.1
 | .error _ => zeroG
def mnV : Except Int (List GVal × Int) → V
 | .ok v => .row true 27 (v.1.map vV)
 | .error _ => .nil
def RdS (f : FuncId) (b : List UInt8) (d : Nat) : Prop := ∀ a : Int, Fn Tryz.prog f [Y b, I a, I d] [.un, .un, .un] [vF 27 (exV (tightP b d a)), I (exE (tightP b d a)), I (codeE (tightP b d a))]
theorem partsF_err {b : List UInt8} {m : Int} : ∀ (f : Nat) (e : Int) {c : Int}, partsF b m f e = .error c → c ≠ 0
 | 0, e, c, h => by cases h; decide
 | f + 1, e, c, h => by
  unfold partsF at h
  split at h
  ·cases h
  ·split at h
   ·rename_i hc; cases h; exact hc
   ·split at h
    ·cases h; decide
    ·split at h
     ·rename_i hs; have := strB_err hs; cases h; omega
     ·split at h
      ·rename_i hp; have := partsF_err f _ hp; cases h; exact this
      ·cases h
theorem openF_err {b : List UInt8} {rd : Int → Except Int (GVal × Int)} {p : Bool} (hrd : ∀ a c, rd a = .error c → c ≠ 0) : ∀ (f : Nat) (o : Bool) (e : Int) {c : Int}, openF b rd p f o e = .error c → c ≠ 0
 | 0, _, _, c, h => by cases h; decide
 | f + 1, o, e, c, h => by
  unfold openF at h
  split at h
  ·split at h
   ·cases h; decide
   ·cases h
  ·split at h
   ·rename_i hs; cases h; exact hrd _ _ hs
   ·split at h
    ·rename_i hp; have := openF_err hrd f _ _ hp; cases h; exact this
    ·cases h
theorem simpleP_err {n w e c : Int} (h : simpleP n w e = .error c) : c ≠ 0 := by
 unfold simpleP at h
 repeat' split at h
 all_goals first | (cases h; decide) | cases h
theorem tightP_err {b : List UInt8} : ∀ (d : Nat) (a c : Int), tightP b d a = .error c → c ≠ 0
 | 0, a, c, h => by cases h; decide
 | d + 1, a, c, h => by
  have ih := tightP_err (b := b) d
  unfold tightP at h
  split at h
  ·rename_i hc; cases h; exact hc
  ·unfold tightB at h
   generalize (getHeadP b a).1.1 = m at h
   generalize (getHeadP b a).1.2.1 = n at h
   generalize (getHeadP b a).1.2.2 = w at h
   generalize (getHeadP b a).2.1 = e at h
   repeat' split at h
   all_goals first
    | (cases h; decide)
    | cases h
    | exact simpleP_err h
    | skip
   ·cases hp : partsQ b m e with
    | error c => have := partsF_err _ _ hp; rw [hp] at h; cases h; exact this
    | ok q => obtain ⟨s, e2⟩ := q; rw [hp] at h; cases h
   ·cases hp : strB b e m n with
    | error c => have := strB_err hp; rw [hp] at h; cases h; omega
    | ok q => obtain ⟨s, e2⟩ := q; rw [hp] at h; cases h
   ·cases hp : manyP (tightP b d) 1 e with
    | error c => have := manyP_ne ih hp; rw [hp] at h; cases h; exact this
    | ok q => obtain ⟨s, e2⟩ := q; rw [hp] at h; cases h
   ·cases hp : openQ b (tightP b d) true false e with
    | error c => have := openF_err ih _ _ _ hp; rw [hp] at h; cases h; exact this
    | ok q => obtain ⟨s, e2⟩ := q; rw [hp] at h; cases h
   ·cases hp : manyP (tightP b d) (2 * n.toNat) e with
    | error c => have := manyP_ne ih hp; rw [hp] at h; cases h; exact this
    | ok q => obtain ⟨s, e2⟩ := q; rw [hp] at h; cases h
   ·cases hp : openQ b (tightP b d) false false e with
    | error c => have := openF_err ih _ _ _ hp; rw [hp] at h; cases h; exact this
    | ok q => obtain ⟨s, e2⟩ := q; rw [hp] at h; cases h
   ·cases hp : manyP (tightP b d) n.toNat e with
    | error c => have := manyP_ne ih hp; rw [hp] at h; cases h; exact this
    | ok q => obtain ⟨s, e2⟩ := q; rw [hp] at h; cases h
theorem s14ManyN {b : List UInt8} {d k : Nat} {e0 : Int} {pairs : Bool} (hb : b.length ≤ 1073741824) (hd : d < 10000) (he : 0 ≤ e0 ∧ e0 ≤ b.length) (hk : k ≤ 2000000000000000) (hV : RdS 52 b d) :
  Fn Tryz.prog 70 [Y b, I e0, I (d + 1), I k, B pairs] [.un, .un, .un, .un, .un] [mnV (manyP (tightP b d) k e0), I (exE (manyP (tightP b d) k e0)), I (codeE (manyP (tightP b d) k e0))] := by
 generalize hR : manyP (tightP b d) k e0 = R
 have hd2 : wrK .i64 (d : Int) = d := wrap64_id _ (by omega)
 have hk0 : ¬ (k : Int) < 0 := by omega
 refine Fn_of Tryz.func70 rfl rfl (by simp -implicitDefEqProofs -dsimp) rfl ?_; simp only [Tryz.f70]
 simp -implicitDefEqProofs -dsimp
 refine WL_loop (fun p : Nat × Int × List GVal => [(0, Y b), (1, I p.2.1), (2, I (d + 1)), (3, I k), (4, B pairs), (10, .nil), (11, I 0), (12, I 0), (13, .row true 27 (p.2.2.map vV)), (14, I p.1)]) (fun p => k - p.1) (fun p => p.1 ≤ k ∧ p.2.1 ≤ b.length ∧ manyP (tightP b d) p.1 e0 = .ok (p.2.2, p.2.1)) (0, e0, []) ⟨Nat.zero_le _, he.2, rfl⟩ ?_ ?_
 ·simp -implicitDefEqProofs -dsimp
 ·rintro ⟨j, e', xs⟩ ⟨hj, hel, hx⟩
  simp only at hj hx hel
  have hadv := manyP_adv (L := b.length) (fun a v e h => (tightP_adv d a v e h).2) hx
  by_cases hjn : j < k
  ·have hjn' : (j : Int) < k := by omega
   have ihe := hV e'
   have hnx : manyP (tightP b d) (j + 1) e0 = match tightP b d e' with | .error c => .error c | .ok (x, e) => .ok (xs ++ [x], e) := by unfold manyP; simp only [hx]; cases tightP b d e' <;> rfl
   cases hq : tightP b d e' with
   | error c2 =>
    have hc2 := tightP_err _ _ _ hq
    rw [hq] at hnx
    have h9 := manyP_err hnx (k - (j + 1))
    rw [show j + 1 + (k - (j + 1)) = k by omega] at h9
    rw [h9] at hR
    subst hR
    rw [hq] at ihe
    simp only [exV, exE, codeE] at ihe
    simp -implicitDefEqProofs -dsimp [-head_L, hjn', hd2, hk0]
    refine WC_nr [B false] (by simp -implicitDefEqProofs -dsimp) ?_; simp -implicitDefEqProofs -dsimp [-head_L, hd2]
    refine wpcall_d ihe ?_; simp -implicitDefEqProofs -dsimp [-head_L, vF, hc2, zeroG, mnV, exE, codeE]
   | ok q =>
    obtain ⟨x, e2⟩ := q
    have h8 := tightP_adv _ _ _ _ hq
    rw [hq] at hnx ihe
    simp only [exV, exE, codeE] at ihe
    have hb9 : (xs.length + 1) * 64 ≤ 1099511627776 := by omega
    have hw9 : wrK .i64 ((j : Int) + 1) = j + 1 := wrap64_id _ (by omega)
    simp -implicitDefEqProofs -dsimp [-head_L, -endOk, hjn', hd2, hk0]
    refine WC_nr [B false] (by simp -implicitDefEqProofs -dsimp) ?_; simp -implicitDefEqProofs -dsimp [-head_L, -endOk, hd2]
    refine wpcall_d ihe ?_; simp -implicitDefEqProofs -dsimp [-head_L, -endOk, vF, hw9, hb9]
    refine ⟨j + 1, e2, xs ++ [x], ⟨by omega, h8.2.2, hnx⟩, by omega, ?_⟩
    simp -implicitDefEqProofs -dsimp
  ·have hjn' : ¬ (j : Int) < k := by omega
   obtain rfl : j = k := by omega
   rw [hx] at hR
   subst hR
   simp -implicitDefEqProofs -dsimp [-head_L, hjn', hk0, mnV, exE, codeE]
end Go.Proofs.YtlfblkekbcfjpaaGreatDoor
namespace Go.Proofs.YtlfblkekbcfjpaaGreatDoor
open Go
set_option maxRecDepth 100000
set_option maxHeartbeats 4000000
theorem s14ManyO {b : List UInt8} {d : Nat} {e0 : Int} {pairs : Bool} (hb : b.length ≤ 1073741824) (hd : d < 10000) (he : 0 ≤ e0 ∧ e0 ≤ b.length) (hV : RdS 52 b d) :
  Fn Tryz.prog 70 [Y b, I e0, I (d + 1), I (-1), B pairs] [.un, .un, .un, .un, .un] [mnV (openQ b (tightP b d) pairs false e0), I (exE (openQ b (tightP b d) pairs false e0)), I (codeE (openQ b (tightP b d) pairs false e0))] := by
 generalize hR : openQ b (tightP b d) pairs false e0 = R
 have hd2 : wrK .i64 (d : Int) = d := wrap64_id _ (by omega)
 refine Fn_of Tryz.func70 rfl rfl (by simp -implicitDefEqProofs -dsimp) rfl ?_; simp only [Tryz.f70]
 simp -implicitDefEqProofs -dsimp
 refine WL_loop (fun p : Nat × Int × List GVal => [(0, Y b), (1, I p.2.1), (2, I (d + 1)), (3, I (-1)), (4, B pairs), (10, .nil), (11, I 0), (12, I 0), (13, .row true 27 (p.2.2.map vV)), (14, I p.1)]) (fun p => b.length - p.2.1.toNat) (fun p => 0 ≤ p.2.1 ∧ p.2.1 ≤ b.length ∧ p.1 ≤ p.2.1 ∧ p.2.2.length = p.1 ∧ kApp p.2.2 (openQ b (tightP b d) pairs (decide (p.1 % 2 = 1)) p.2.1) = R) (0, e0, []) ⟨he.1, he.2, he.1, rfl, by rw [kApp_nil]; exact hR⟩ ?_ ?_
 ·simp -implicitDefEqProofs -dsimp
 ·clear hR
  rintro ⟨j, e, xs⟩ ⟨h0, hel, hje, hlen, hR⟩
  simp only at h0 hel hje hlen hR ⊢
  have hS := s14End (b := b) (e := e) (by omega)
  by_cases hE : endB b e = true
  ·have hat := endB_at hE
   have hw : wrK .i64 (e + 1) = e + 1 := wrap64_id _ (by omega)
   rw [openQ_end hE] at hR
   rw [hE] at hS
   cases pairs with
   | false =>
    simp at hR; subst hR
    simp -implicitDefEqProofs -dsimp [-head_L]
    refine wpcall_d hS ?_; simp -implicitDefEqProofs -dsimp [-head_L, hw, kApp, mnV, exE, codeE]
   | true =>
    have hr : ((j : Int).tmod 2) = (j : Int) % 2 := Int.tmod_eq_emod_of_nonneg (by omega)
    by_cases ho : j % 2 = 1
    ·have hr2 : ((j : Int).tmod 2) = 1 := by omega
     simp -implicitDefEqProofs -dsimp [ho] at hR; subst hR
     simp -implicitDefEqProofs -dsimp [-head_L]
     refine wpcall_d hS ?_; simp -implicitDefEqProofs -dsimp [-head_L, hr2, kApp, mnV, exE, codeE]
    ·have hr2 : ((j : Int).tmod 2) = 0 := by omega
     simp -implicitDefEqProofs -dsimp [ho] at hR; subst hR
     simp -implicitDefEqProofs -dsimp [-head_L]
     refine wpcall_d hS ?_; simp -implicitDefEqProofs -dsimp [-head_L, hr2, hw, kApp, mnV, exE, codeE]
  ·have hE2 : endB b e = false := by simpa using hE
   rw [hE2] at hS
   have ihe := hV e
   cases hq : tightP b d e with
   | error c2 =>
    have hc2 := tightP_err _ _ _ hq
    rw [openQ_err hel hE hq] at hR; subst hR
    rw [hq] at ihe
    simp only [exV, exE, codeE] at ihe
    simp -implicitDefEqProofs -dsimp [-head_L]
    refine wpcall_d hS ?_; simp -implicitDefEqProofs -dsimp [-head_L, hd2]
    refine wpcall_d ihe ?_; simp -implicitDefEqProofs -dsimp [-head_L, vF, hc2, zeroG, kApp, mnV, exE, codeE]
   | ok q =>
    obtain ⟨x, e2⟩ := q
    have h8 := tightP_adv _ _ _ _ hq
    rw [openQ_step (fun a v e h => tightP_adv d a v e h) hE hq] at hR
    rw [hq] at ihe
    simp only [exV, exE, codeE] at ihe
    have hb9 : (xs.length + 1) * 64 ≤ 1099511627776 := by omega
    have hw9 : wrK .i64 ((j : Int) + 1) = j + 1 := wrap64_id _ (by omega)
    have hpar : (!decide (j % 2 = 1)) = decide ((j + 1) % 2 = 1) := by
     by_cases ho : j % 2 = 1
     ·have : ¬ (j + 1) % 2 = 1 := by omega
      simp -implicitDefEqProofs -dsimp [ho, this]
     ·have : (j + 1) % 2 = 1 := by omega
      simp -implicitDefEqProofs -dsimp [ho, this]
    rw [hpar] at hR
    simp -implicitDefEqProofs -dsimp [-head_L, -endOk]
    refine wpcall_d hS ?_; simp -implicitDefEqProofs -dsimp [-head_L, -endOk, hd2]
    refine wpcall_d ihe ?_; simp -implicitDefEqProofs -dsimp [-head_L, -endOk, vF, hw9, hb9]
    refine ⟨j + 1, e2, xs ++ [x], ⟨by omega, h8.2.2, by omega, by simp -implicitDefEqProofs -dsimp; omega, hR⟩, by omega, ?_⟩
    simp -implicitDefEqProofs -dsimp
end Go.Proofs.YtlfblkekbcfjpaaGreatDoor
namespace Go.Proofs.YtlfblkekbcfjpaaGreatDoor
open Go
set_option maxRecDepth 100000
set_option maxHeartbeats 4000000
theorem s14_0 {b : List UInt8} : RdS 52 b 0 := by
 intro a
 unfold tightP
 refine Fn_of Tryz.func52 rfl rfl (by simp -implicitDefEqProofs -dsimp) rfl ?_; simp only [Tryz.f52]
 simp -implicitDefEqProofs -dsimp [exV, exE, codeE, vF, zeroG]
theorem s14_head {b : List UInt8} {d : Nat} {a : Int} (hb : b.length ≤ 1073741824) (hd : d < 10000) (hc : ¬ (getHeadP b a).2.2 = 0) :
  Fn Tryz.prog 52 [Y b, I a, I ((d + 1 : Nat) : Int)] [.un, .un, .un] [vF 27 (exV (tightP b (d + 1) a)), I (exE (tightP b (d + 1) a)), I (codeE (tightP b (d + 1) a))] := by
 have hH := sGetHead (b := b) (at_ := a) (by omega)
 have hd1 : ¬ (10000 : Int) < (d : Int) + 1 := by omega
 have hd2 : ¬ ((d : Int) + 1) < 1 := by omega
 unfold tightP; rw [if_pos hc]
 generalize getHeadP b a = r at *
 obtain ⟨⟨m, n, w⟩, e, c⟩ := r
 simp only at hH hc ⊢
 refine Fn_of Tryz.func52 rfl rfl (by simp -implicitDefEqProofs -dsimp) rfl ?_; simp only [Tryz.f52]
 simp -implicitDefEqProofs -dsimp [hd1, hd2]
 repeat' (first | with_reducible intro _ | with_reducible apply And.intro | (refine chkOk ?_; kernel_rfl) | (refine wpcall_d (hH) ?_; simp -implicitDefEqProofs -dsimp [hc, exV, exE, codeE, vF, zeroG]))
theorem s14_int {b : List UInt8} {d : Nat} {a m n w e : Int} (hb : b.length ≤ 1073741824) (hd : d < 10000) (hh : getHeadP b a = ((m, n, w), e, 0)) (hm : m = 0 ∨ m = 1) :
  Fn Tryz.prog 52 [Y b, I a, I ((d + 1 : Nat) : Int)] [.un, .un, .un] [vF 27 (exV (tightP b (d + 1) a)), I (exE (tightP b (d + 1) a)), I (codeE (tightP b (d + 1) a))] := by
 have hH := sGetHead (b := b) (at_ := a) (by omega)
 have ho := head_ok hh
 have hd1 : ¬ (10000 : Int) < (d : Int) + 1 := by omega
 have hd2 : ¬ ((d : Int) + 1) < 1 := by omega
 rw [hh] at hH
 unfold tightP; rw [hh]; simp only [ne_eq, not_true_eq_false, if_false]
 unfold tightB
 rcases hm with rfl | rfl
 ·have hI := sIntVal (n := n)
  refine Fn_of Tryz.func52 rfl rfl (by simp -implicitDefEqProofs -dsimp) rfl ?_; simp only [Tryz.f52]
  simp -implicitDefEqProofs -dsimp [hd1, hd2]
  repeat' (first | with_reducible intro _ | with_reducible apply And.intro | (refine chkOk ?_; kernel_rfl) | (refine wpcall_d (hH) ?_; simp -implicitDefEqProofs -dsimp [exV, exE, codeE, vF, zeroG]) | (refine wpcall_d (hI) ?_; simp -implicitDefEqProofs -dsimp [exV, exE, codeE, vF, zeroG]))
 ·by_cases hn : 1000000000000000 ≤ n
  ·refine Fn_of Tryz.func52 rfl rfl (by simp -implicitDefEqProofs -dsimp) rfl ?_; simp only [Tryz.f52]
   simp -implicitDefEqProofs -dsimp [hd1, hd2]
   repeat' (first | with_reducible intro _ | with_reducible apply And.intro | (refine chkOk ?_; kernel_rfl) | (refine wpcall_d (hH) ?_; simp -implicitDefEqProofs -dsimp [hn, exV, exE, codeE, vF, zeroG]))
  ·have hI := sIntVal (n := -1 - n)
   have hw : wrK .i64 (-1 - n) = -1 - n := wrap64_id _ (by omega)
   refine Fn_of Tryz.func52 rfl rfl (by simp -implicitDefEqProofs -dsimp) rfl ?_; simp only [Tryz.f52]
   simp -implicitDefEqProofs -dsimp [hd1, hd2]
   refine wpcall_d hH ?_; simp -implicitDefEqProofs -dsimp [hn, hw]
   refine wpcall_d hI ?_; simp -implicitDefEqProofs -dsimp [hn, exV, exE, codeE, vF, zeroG]
end Go.Proofs.YtlfblkekbcfjpaaGreatDoor
