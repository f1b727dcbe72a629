/- Part of a proof: contracts and plain laws. -/
import Derived.Test.YtlfblkekbcfjpaaGreatDoorZ34
set_option linter.unusedVariables false
set_option linter.unusedSimpArgs false
namespace Go.Proofs.YtlfblkekbcfjpaaGreatDoor
open Go
set_option maxRecDepth 100000
set_option maxHeartbeats 20000000
theorem s11Tree {ts : List Tok} {D : Int} (hl : ts.length ≤ 1073741824) (hD : 0 ≤ D ∧ D ≤ 1000000) (hn : ∀ t ∈ ts, In64 t.n) : ∀ d : Nat, d ≤ D → TreeC ts D d
 | 0, _ => fun a ha => by
  have hF := s11Fail (ts := ts) (D := D) (k := 2) (a := a)
  have h1 : D < D + 1 := by omega
  show Fn Tryz.prog 64 [pB ts D a 0, I (D - 0 + 1)] [tO ts D (.error 2), .un] [vF 27 zeroG]
  rw [show D - 0 + 1 = D + 1 by omega]
  refine Fn_of Tryz.func64 rfl rfl (by simp -implicitDefEqProofs -dsimp) rfl ?_; simp only [Tryz.f64]
  simp -implicitDefEqProofs -dsimp [h1]
  refine wpcall_q hF ?_; simp -implicitDefEqProofs -dsimp [tA, codeE, vF, zeroG]
 | d + 1, hd => fun a ha => by
  have ih := s11Tree hl hD hn d (by omega)
  have hdp : D - ((d + 1 : Nat) : Int) + 1 = D - d := by omega
  rw [hdp]
  have h1 : ¬ D < D - d := by omega
  generalize hR : valueP ts (d + 1) a = R
  unfold valueP at hR
  have hN := s11Next (ts := ts) (D := D) (c := 0) (a := a) hl ha
  have hF1 := s11Fail (ts := ts) (D := D) (k := 1) (a := nextA ts a)
  have hF2 := s11Fail (ts := ts) (D := D) (k := 2) (a := nextA ts a)
  cases ht : ts[a]? with
  | none =>
   rw [ht] at hR; simp only at hR; subst hR
   have hz : nextT ts a = zTok := by unfold nextT; rw [ht]; rfl
   rw [hz] at hN
   refine Fn_of Tryz.func64 rfl rfl (by simp -implicitDefEqProofs -dsimp) rfl ?_; simp only [Tryz.f64]
   simp -implicitDefEqProofs -dsimp [h1]
   refine wpcall_q hN ?_; simp -implicitDefEqProofs -dsimp [zTok]
   refine wpcall_q hF1 ?_; simp -implicitDefEqProofs -dsimp [tA, codeE, tG, vF, zeroG]
  | some t =>
   have hlt : a < ts.length := by
    rcases Nat.lt_or_ge a ts.length with h1 | h1
    ·exact h1
    ·rw [List.getElem?_eq_none h1] at ht; cases ht
   have htn : nextT ts a = t := by unfold nextT; rw [ht]; rfl
   have hna : nextA ts a = a + 1 := if_pos hlt
   have hnt := hn t (List.mem_of_getElem? ht)
   rw [htn, hna] at hN
   rw [ht] at hR; simp only at hR
   by_cases k2 : t.k = 2
   ·rw [if_pos k2] at hR; subst hR
    have hX := @sTextVal t.s
    refine Fn_of Tryz.func64 rfl rfl (by simp -implicitDefEqProofs -dsimp) rfl ?_; simp only [Tryz.f64]
    simp -implicitDefEqProofs -dsimp [h1]
    refine wpcall_q hN ?_; simp -implicitDefEqProofs -dsimp [k2]
    refine wpcall_d hX ?_; simp -implicitDefEqProofs -dsimp [tA, codeE, tG, vF, txG]
   rw [if_neg k2] at hR
   by_cases k3 : t.k = 3
   ·rw [if_pos k3] at hR
    have hDN := sDecNew (x := t.x) hnt
    cases hdn : decNewP t.n t.x with
    | none =>
     rw [hdn] at hR hDN; simp only at hR; subst hR
     simp -implicitDefEqProofs -dsimp [optF] at hDN
     rw [hna] at hF2
     refine Fn_of Tryz.func64 rfl rfl (by simp -implicitDefEqProofs -dsimp) rfl ?_; simp only [Tryz.f64]
     simp -implicitDefEqProofs -dsimp [h1]
     refine wpcall_q hN ?_; simp -implicitDefEqProofs -dsimp [k3]
     refine wpcall_d hDN ?_; simp -implicitDefEqProofs -dsimp
     refine wpcall_q hF2 ?_; simp -implicitDefEqProofs -dsimp [tA, codeE, tG, vF, zeroG]
    | some p =>
     obtain ⟨m, y⟩ := p
     rw [hdn] at hR hDN; simp only at hR; subst hR
     simp -implicitDefEqProofs -dsimp [optF] at hDN
     have hNV := @sNumberVal m y
     generalize numG (m, y) = g at *
     refine Fn_of Tryz.func64 rfl rfl (by simp -implicitDefEqProofs -dsimp) rfl ?_; simp only [Tryz.f64]
     simp -implicitDefEqProofs -dsimp [h1]
     refine wpcall_q hN ?_; simp -implicitDefEqProofs -dsimp [k3]
     refine wpcall_d hDN ?_; simp -implicitDefEqProofs -dsimp
     refine wpcall_d hNV ?_; simp -implicitDefEqProofs -dsimp [tA, codeE, tG, vF]
   rw [if_neg k3] at hR
   by_cases k4 : t.k = 4
   ·rw [if_pos k4] at hR
    by_cases w1 : t.s = wNull
    ·rw [if_pos w1] at hR; subst hR
     refine Fn_of Tryz.func64 rfl rfl (by simp -implicitDefEqProofs -dsimp) rfl ?_; simp only [Tryz.f64]
     simp -implicitDefEqProofs -dsimp [h1]
     refine wpcall_q hN ?_; simp -implicitDefEqProofs -dsimp [k4, w1, tA, codeE, tG, vF]
    rw [if_neg w1] at hR
    by_cases w2 : t.s = wTrue
    ·rw [if_pos w2] at hR; subst hR
     refine Fn_of Tryz.func64 rfl rfl (by simp -implicitDefEqProofs -dsimp) rfl ?_; simp only [Tryz.f64]
     simp -implicitDefEqProofs -dsimp [h1]
     refine wpcall_q hN ?_; simp -implicitDefEqProofs -dsimp [k4, w2, tA, codeE, tG, vF]
    rw [if_neg w2] at hR
    by_cases w3 : t.s = wFalse
    ·rw [if_pos w3] at hR; subst hR
     refine Fn_of Tryz.func64 rfl rfl (by simp -implicitDefEqProofs -dsimp) rfl ?_; simp only [Tryz.f64]
     simp -implicitDefEqProofs -dsimp [h1]
     refine wpcall_q hN ?_; simp -implicitDefEqProofs -dsimp [k4, w3, tA, codeE, tG, vF]
    rw [if_neg w3] at hR; subst hR
    rw [hna] at hF1
    refine Fn_of Tryz.func64 rfl rfl (by simp -implicitDefEqProofs -dsimp) rfl ?_; simp only [Tryz.f64]
    simp -implicitDefEqProofs -dsimp [h1]
    refine wpcall_q hN ?_; simp -implicitDefEqProofs -dsimp [k4, w1, w2, w3]
    refine wpcall_q hF1 ?_; simp -implicitDefEqProofs -dsimp [tA, codeE, tG, vF, zeroG]
   rw [if_neg k4] at hR
   by_cases k1 : t.k = 1
   ·rw [if_pos k1] at hR
    by_cases s1 : t.s = [91]
    ·rw [if_pos s1] at hR
     have hM := s11Many_l (x := 93) (a := a + 1) hl hD (by omega) ih (by omega)
     rw [hR] at hM
     clear hR
     refine Fn_of Tryz.func64 rfl rfl (by simp -implicitDefEqProofs -dsimp) (by rcases R with _ | ⟨_, _⟩ <;> rfl) ?_; simp only [Tryz.f64]
     simp -implicitDefEqProofs -dsimp [h1]
     refine wpcall_q hN ?_; simp -implicitDefEqProofs -dsimp [k1, s1]
     refine wpcall_q hM ?_
     rcases R with c | ⟨v, e⟩ <;> simp -implicitDefEqProofs -dsimp [tA, codeE, tG, vF, zeroG]
    rw [if_neg s1] at hR
    by_cases s2 : t.s = [123]
    ·rw [if_pos s2] at hR
     have hM := s11Many_m (x := 125) (a := a + 1) hl hD (by omega) ih (by omega)
     rw [hR] at hM
     clear hR
     refine Fn_of Tryz.func64 rfl rfl (by simp -implicitDefEqProofs -dsimp) (by rcases R with _ | ⟨_, _⟩ <;> rfl) ?_; simp only [Tryz.f64]
     simp -implicitDefEqProofs -dsimp [h1]
     refine wpcall_q hN ?_; simp -implicitDefEqProofs -dsimp [k1, s1, s2]
     refine wpcall_q hM ?_
     rcases R with c | ⟨v, e⟩ <;> simp -implicitDefEqProofs -dsimp [tA, codeE, tG, vF, zeroG]
    rw [if_neg s2] at hR; subst hR
    rw [hna] at hF1
    refine Fn_of Tryz.func64 rfl rfl (by simp -implicitDefEqProofs -dsimp) rfl ?_; simp only [Tryz.f64]
    simp -implicitDefEqProofs -dsimp [h1]
    refine wpcall_q hN ?_; simp -implicitDefEqProofs -dsimp [k1, s1, s2]
    refine wpcall_q hF1 ?_; simp -implicitDefEqProofs -dsimp [tA, codeE, tG, vF, zeroG]
   rw [if_neg k1] at hR; subst hR
   rw [hna] at hF1
   refine Fn_of Tryz.func64 rfl rfl (by simp -implicitDefEqProofs -dsimp) rfl ?_; simp only [Tryz.f64]
   simp -implicitDefEqProofs -dsimp [h1]
   refine wpcall_q hN ?_; simp -implicitDefEqProofs -dsimp [k1, k2, k3, k4]
   refine wpcall_q hF1 ?_; simp -implicitDefEqProofs -dsimp [tA, codeE, tG, vF, zeroG]
end Go.Proofs.YtlfblkekbcfjpaaGreatDoor
namespace Go.Proofs.YtlfblkekbcfjpaaGreatDoor
open Go
set_option maxRecDepth 100000
set_option maxHeartbeats 20000000
theorem sParseTokens {ts : List Tok} {d : Nat} (hl : ts.length ≤ 1073741824) (hn : ∀ t ∈ ts, In64 t.n) (hd : d ≤ 1000000) :
  Fn Tryz.prog 51 [.sl (ts.map tkV), I d] [.un, .un] [vF 27 (exG (treeP ts d)), I (codeE (treeP ts d))] := by
 generalize hR : treeP ts d = R
 unfold treeP at hR
 have hV := s11Tree (D := d) hl (by omega) hn d (Int.le_refl _) 0 (Nat.zero_le _)
 rw [show (d : Int) - d + 1 = 1 by omega] at hV
 rcases hv : valueP ts d 0 with c | ⟨v, e⟩
 ·rw [hv] at hR hV; simp only at hR; subst hR
  have hc : ¬ c = 0 := by have := valueP_err d 0 c hv; omega
  simp -implicitDefEqProofs -dsimp [tO, tA, tG, codeE, vF, zeroG] at hV
  refine Fn_of Tryz.func51 rfl rfl (by simp -implicitDefEqProofs -dsimp) rfl ?_; simp only [Tryz.f51]
  simp -implicitDefEqProofs -dsimp
  refine wpcall_q hV ?_; simp -implicitDefEqProofs -dsimp [hc, exG, codeE, vF, zeroG]
  repeat' (first | with_reducible intro _ | with_reducible apply And.intro | (refine chkOk ?_; kernel_rfl))
 ·rw [hv] at hR hV; simp only at hR
  have hade := valueP_adv d 0 v e hv
  simp -implicitDefEqProofs -dsimp [tO, tA, tG, codeE, vF] at hV
  by_cases he : e < ts.length
  ·rw [if_pos he] at hR; subst hR
   have he2 : ¬ (e : Int) = ts.length := by omega
   have he3 : ¬ e = ts.length := by omega
   refine Fn_of Tryz.func51 rfl rfl (by simp -implicitDefEqProofs -dsimp) rfl ?_; simp only [Tryz.f51]
   simp -implicitDefEqProofs -dsimp
   refine wpcall_q hV ?_; simp -implicitDefEqProofs -dsimp [he2, he3, exG, codeE, vF, zeroG]
   repeat' (first | with_reducible intro _ | with_reducible apply And.intro | (refine chkOk ?_; kernel_rfl))
  ·rw [if_neg he] at hR; subst hR
   have he2 : (e : Int) = ts.length := by omega
   have he3 : e = ts.length := by omega
   refine Fn_of Tryz.func51 rfl rfl (by simp -implicitDefEqProofs -dsimp) rfl ?_; simp only [Tryz.f51]
   simp -implicitDefEqProofs -dsimp
   refine wpcall_q hV ?_; simp -implicitDefEqProofs -dsimp [he2, he3, exG, codeE, vF, zeroG]
   repeat' (first | with_reducible intro _ | with_reducible apply And.intro | (refine chkOk ?_; kernel_rfl))
theorem sReadText {l : List UInt8} {d : Nat} (hl : l.length ≤ 1073741824) (hd : d ≤ 1000000) :
  Fn Tryz.prog 36 [T l, I d] [.un, .un] [vF 27 (exG (readTextP l d)), I (codeE (readTextP l d))] := by
 have hT := sTokens hl
 unfold readTextP
 cases ht : toksQ l 0 with
 | error c =>
  have hc := toksQ_err_ne ht
  have hc0 : ¬ c = 0 := by omega
  rw [ht] at hT
  simp -implicitDefEqProofs -dsimp [tksV, codeE] at hT
  refine Fn_of Tryz.func36 rfl rfl (by simp -implicitDefEqProofs -dsimp) rfl ?_; simp only [Tryz.f36]
  simp -implicitDefEqProofs -dsimp [hc0, exG, codeE, vF, zeroG]; repeat' (first | with_reducible intro _ | with_reducible apply And.intro | (refine chkOk ?_; kernel_rfl) | (refine wpcall_d (hT) ?_; simp -implicitDefEqProofs -dsimp [hc0, exG, codeE, vF, zeroG]))
 | ok ts =>
  rw [ht] at hT
  have hlen := toks_len _ _ (Nat.zero_le _) ht
  have hP := sParseTokens (d := d) (by omega) (toksF_n _ _ ht) hd
  simp -implicitDefEqProofs -dsimp [tksV, codeE] at hT
  simp only
  generalize exG (treeP ts d) = g at *
  generalize codeE (treeP ts d) = c at *
  refine Fn_of Tryz.func36 rfl rfl (by simp -implicitDefEqProofs -dsimp) rfl ?_; simp only [Tryz.f36]
  simp -implicitDefEqProofs -dsimp [vF]; repeat' (first | with_reducible intro _ | with_reducible apply And.intro | (refine chkOk ?_; kernel_rfl) | (refine wpcall_d (hT) ?_; simp -implicitDefEqProofs -dsimp [vF]) | (refine wpcall_q (hP) ?_; simp -implicitDefEqProofs -dsimp [vF]))
end Go.Proofs.YtlfblkekbcfjpaaGreatDoor
