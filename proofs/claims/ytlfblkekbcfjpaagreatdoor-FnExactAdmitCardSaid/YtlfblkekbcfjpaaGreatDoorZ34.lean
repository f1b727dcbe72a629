/- Part of a proof: contracts and plain laws. -/
import Derived.Test.YtlfblkekbcfjpaaGreatDoorZ33
set_option linter.unusedVariables false
set_option linter.unusedSimpArgs false
namespace Go.Proofs.YtlfblkekbcfjpaaGreatDoor
open Go
set_option maxRecDepth 100000
set_option maxHeartbeats 20000000
theorem iValue {ts : List Tok} (hl : ts.length ≤ 1073741824) (hn : ∀ t ∈ ts, In64 t.n) : ∀ d : Nat, d ≤ 1000000 → ValC ts d
 | 0, _ => fun a ha => by
  have hF := iTFail0 (ts := ts) (a := a) (k := 2)
  show Fn Tryz.prog 117 [tB ts a 0, I 0] [tvO ts (.error 2), .un] [gV]
  simp -implicitDefEqProofs -dsimp [vF, zeroG] at hF
  refine Fn_of Tryz.func117 rfl rfl (by simp -implicitDefEqProofs -dsimp) rfl ?_; simp only [Tryz.f117]
  simp -implicitDefEqProofs -dsimp
  refine wpcall_q hF ?_; simp -implicitDefEqProofs -dsimp [tvO, tvA, codeE, gV]
 | d + 1, hd => fun a ha => by
  have ih := iValue hl hn d (by omega)
  have hd1 : ¬ (d : Int) + 1 < 1 := by omega
  generalize hR : valueP ts (d + 1) a = R
  unfold valueP at hR
  have hF1 := iTFail0 (ts := ts) (a := a) (k := 1)
  have hF2 := iTFail0 (ts := ts) (a := a) (k := 2)
  simp -implicitDefEqProofs -dsimp [vF, zeroG] at hF1 hF2
  cases ht : ts[a]? with
  | none =>
   have hge : ts.length ≤ a := by
    rcases Nat.lt_or_ge a ts.length with h1 | h1
    ·rw [List.getElem?_eq_getElem h1] at ht; cases ht
    ·exact h1
   have g1 : (ts.length : Int) ≤ a := by omega
   rw [ht] at hR; simp only at hR; subst hR
   refine Fn_of Tryz.func117 rfl rfl (by simp -implicitDefEqProofs -dsimp) rfl ?_; simp only [Tryz.f117]
   simp -implicitDefEqProofs -dsimp [hd1, g1, hge]
   refine ⟨?_, ?_⟩
   ·refine chkOk ?_; kernel_rfl
   refine wpcall_q hF1 ?_; simp -implicitDefEqProofs -dsimp [tvO, tvA, tvV, codeE, gV]
  | some t =>
   have hlt : a < ts.length := by
    rcases Nat.lt_or_ge a ts.length with h1 | h1
    ·exact h1
    ·rw [List.getElem?_eq_none h1] at ht; cases ht
   have hx2 : ts[a] = t := by rw [List.getElem?_eq_getElem hlt] at ht; exact Option.some.inj ht
   have g1 : ¬ (ts.length : Int) ≤ a := by omega
   have g2 : ¬ ts.length ≤ a := by omega
   have g3 : (a : Int) < ts.length := by omega
   have hnt := hn t (List.mem_of_getElem? ht)
   have w0 : wrK .i64 ((a : Int) + 1) = a + 1 := wrap64_id _ (by omega)
   have hI1 := iIs0 (ts := ts) (a := a) (x := 91) hl
   have hI2 := iIs0 (ts := ts) (a := a) (x := 123) hl
   have e1 : ∀ x, sgnAt ts a x = isSgn t x := fun x => by unfold sgnAt; rw [ht]
   rw [e1] at hI1 hI2
   rw [ht] at hR; simp only at hR
   by_cases k1 : t.k = 1
   ·rw [if_neg (by omega), if_neg (by omega), if_neg (by omega), if_pos k1] at hR
    by_cases s1 : t.s = [91]
    ·rw [if_pos s1] at hR
     have hM := iElems_l (x := 91 + 2) (by decide) hl (by omega) ih hlt
     rw [show (91 + 2 : UInt8) = 93 from rfl] at hM
     rw [hR] at hM
     rw [show isSgn t 91 = true by simp +zeta [isSgn, k1, s1]] at hI1
     clear hR
     refine Fn_of Tryz.func117 rfl rfl (by simp -implicitDefEqProofs -dsimp) (by rcases R with _ | ⟨_, _⟩ <;> rfl) ?_; simp only [Tryz.f117]
     simp -implicitDefEqProofs -dsimp [hd1, g1, g2, g3, hlt, hx2]
     refine ⟨?_, ?_⟩
     ·refine chkOk ?_; kernel_rfl
     refine ⟨?_, ?_⟩
     ·refine chkOk ?_; kernel_rfl
     refine wpcall_q hI1 ?_; simp -implicitDefEqProofs -dsimp
     refine wpcall_q hM ?_
     rcases R with c | ⟨v, e⟩ <;> simp -implicitDefEqProofs -dsimp [tvO, tvA, tvV, codeE, gV, vF]
    rw [if_neg s1] at hR
    rw [show isSgn t 91 = false by simp +zeta [isSgn, k1, s1]] at hI1
    by_cases s2 : t.s = [123]
    ·rw [if_pos s2] at hR
     have hM := iElems_m (x := 125) (by decide) hl (by omega) ih hlt
     rw [hR] at hM
     rw [show isSgn t 123 = true by simp +zeta [isSgn, k1, s2]] at hI2
     clear hR
     refine Fn_of Tryz.func117 rfl rfl (by simp -implicitDefEqProofs -dsimp) (by rcases R with _ | ⟨_, _⟩ <;> rfl) ?_; simp only [Tryz.f117]
     simp -implicitDefEqProofs -dsimp [hd1, g1, g2, g3, hlt, hx2]
     refine ⟨?_, ?_⟩
     ·refine chkOk ?_; kernel_rfl
     refine ⟨?_, ?_⟩
     ·refine chkOk ?_; kernel_rfl
     refine wpcall_q hI1 ?_; simp -implicitDefEqProofs -dsimp
     refine wpcall_q hI2 ?_; simp -implicitDefEqProofs -dsimp
     refine wpcall_q hM ?_
     rcases R with c | ⟨v, e⟩ <;> simp -implicitDefEqProofs -dsimp [tvO, tvA, tvV, codeE, gV, vF]
    rw [if_neg s2] at hR; subst hR
    rw [show isSgn t 123 = false by simp +zeta [isSgn, k1, s2]] at hI2
    refine Fn_of Tryz.func117 rfl rfl (by simp -implicitDefEqProofs -dsimp) rfl ?_; simp only [Tryz.f117]
    simp -implicitDefEqProofs -dsimp [hd1, g1, g2, g3, hlt, hx2]
    refine ⟨?_, ?_⟩
    ·refine chkOk ?_; kernel_rfl
    refine ⟨?_, ?_⟩
    ·refine chkOk ?_; kernel_rfl
    refine wpcall_q hI1 ?_; simp -implicitDefEqProofs -dsimp
    refine wpcall_q hI2 ?_; simp -implicitDefEqProofs -dsimp [k1]
    refine wpcall_q hF1 ?_; simp -implicitDefEqProofs -dsimp [tvO, tvA, tvV, codeE, gV]
   rw [show isSgn t 91 = false by simp +zeta [isSgn, k1]] at hI1
   rw [show isSgn t 123 = false by simp +zeta [isSgn, k1]] at hI2
   by_cases k2 : t.k = 2
   ·rw [if_pos k2] at hR; subst hR
    have hX := @iTextVal t.s
    refine Fn_of Tryz.func117 rfl rfl (by simp -implicitDefEqProofs -dsimp) rfl ?_; simp only [Tryz.f117]
    simp -implicitDefEqProofs -dsimp [hd1, g1, g2, g3, hlt, hx2]
    refine ⟨?_, ?_⟩
    ·refine chkOk ?_; kernel_rfl
    refine ⟨?_, ?_⟩
    ·refine chkOk ?_; kernel_rfl
    refine wpcall_q hI1 ?_; simp -implicitDefEqProofs -dsimp
    refine wpcall_q hI2 ?_; simp -implicitDefEqProofs -dsimp [k2, w0]
    refine wpcall_d hX ?_; simp -implicitDefEqProofs -dsimp [tvO, tvA, tvV, codeE, vF, txG]
   rw [if_neg k2] at hR
   by_cases k3 : t.k = 3
   ·rw [if_pos k3] at hR
    have hDN := idecimal (x := t.x) hnt
    cases hdn : decNewP t.n t.x with
    | none =>
     rw [hdn] at hR hDN; simp only at hR; subst hR
     simp -implicitDefEqProofs -dsimp [optF, numG, vF] at hDN
     refine Fn_of Tryz.func117 rfl rfl (by simp -implicitDefEqProofs -dsimp) rfl ?_; simp only [Tryz.f117]
     simp -implicitDefEqProofs -dsimp [hd1, g1, g2, g3, hlt, hx2]
     refine ⟨?_, ?_⟩
     ·refine chkOk ?_; kernel_rfl
     refine ⟨?_, ?_⟩
     ·refine chkOk ?_; kernel_rfl
     refine wpcall_q hI1 ?_; simp -implicitDefEqProofs -dsimp
     refine wpcall_q hI2 ?_; simp -implicitDefEqProofs -dsimp [k3]
     refine wpcall_d hDN ?_; simp -implicitDefEqProofs -dsimp
     refine ⟨?_, ?_⟩
     ·refine chkOk ?_; kernel_rfl
     refine wpcall_q hF2 ?_; simp -implicitDefEqProofs -dsimp [tvO, tvA, tvV, codeE, gV]
    | some p =>
     obtain ⟨m, y⟩ := p
     rw [hdn] at hR hDN; simp only at hR; subst hR
     simp -implicitDefEqProofs -dsimp [optF, vF] at hDN
     generalize numG (m, y) = g at *
     refine Fn_of Tryz.func117 rfl rfl (by simp -implicitDefEqProofs -dsimp) rfl ?_; simp only [Tryz.f117]
     simp -implicitDefEqProofs -dsimp [hd1, g1, g2, g3, hlt, hx2]
     refine ⟨?_, ?_⟩
     ·refine chkOk ?_; kernel_rfl
     refine ⟨?_, ?_⟩
     ·refine chkOk ?_; kernel_rfl
     refine wpcall_q hI1 ?_; simp -implicitDefEqProofs -dsimp
     refine wpcall_q hI2 ?_; simp -implicitDefEqProofs -dsimp [k3]
     refine wpcall_d hDN ?_; simp -implicitDefEqProofs -dsimp [w0, tvO, tvA, tvV, codeE, vF]
     refine chkOk ?_; kernel_rfl
   rw [if_neg k3] at hR
   by_cases k4 : t.k = 4
   ·rw [if_pos k4] at hR
    by_cases w1 : t.s = wNull
    ·rw [if_pos w1] at hR; subst hR
     refine Fn_of Tryz.func117 rfl rfl (by simp -implicitDefEqProofs -dsimp) rfl ?_; simp only [Tryz.f117]
     simp -implicitDefEqProofs -dsimp [hd1, g1, g2, g3, hlt, hx2]
     refine ⟨?_, ?_⟩
     ·refine chkOk ?_; kernel_rfl
     refine ⟨?_, ?_⟩
     ·refine chkOk ?_; kernel_rfl
     refine wpcall_q hI1 ?_; simp -implicitDefEqProofs -dsimp
     refine wpcall_q hI2 ?_; simp -implicitDefEqProofs -dsimp [k4, w1, w0, tvO, tvA, tvV, codeE, vF]
    rw [if_neg w1] at hR
    by_cases w2 : t.s = wTrue
    ·rw [if_pos w2] at hR; subst hR
     refine Fn_of Tryz.func117 rfl rfl (by simp -implicitDefEqProofs -dsimp) rfl ?_; simp only [Tryz.f117]
     simp -implicitDefEqProofs -dsimp [hd1, g1, g2, g3, hlt, hx2]
     refine ⟨?_, ?_⟩
     ·refine chkOk ?_; kernel_rfl
     refine ⟨?_, ?_⟩
     ·refine chkOk ?_; kernel_rfl
     refine wpcall_q hI1 ?_; simp -implicitDefEqProofs -dsimp
     refine wpcall_q hI2 ?_; simp -implicitDefEqProofs -dsimp [k4, w2, w0, tvO, tvA, tvV, codeE, vF]
    rw [if_neg w2] at hR
    by_cases w3 : t.s = wFalse
    ·rw [if_pos w3] at hR; subst hR
     refine Fn_of Tryz.func117 rfl rfl (by simp -implicitDefEqProofs -dsimp) rfl ?_; simp only [Tryz.f117]
     simp -implicitDefEqProofs -dsimp [hd1, g1, g2, g3, hlt, hx2]
     refine ⟨?_, ?_⟩
     ·refine chkOk ?_; kernel_rfl
     refine ⟨?_, ?_⟩
     ·refine chkOk ?_; kernel_rfl
     refine wpcall_q hI1 ?_; simp -implicitDefEqProofs -dsimp
     refine wpcall_q hI2 ?_; simp -implicitDefEqProofs -dsimp [k4, w3, w0, tvO, tvA, tvV, codeE, vF]
    rw [if_neg w3] at hR; subst hR
    refine Fn_of Tryz.func117 rfl rfl (by simp -implicitDefEqProofs -dsimp) rfl ?_; simp only [Tryz.f117]
    simp -implicitDefEqProofs -dsimp [hd1, g1, g2, g3, hlt, hx2]
    refine ⟨?_, ?_⟩
    ·refine chkOk ?_; kernel_rfl
    refine ⟨?_, ?_⟩
    ·refine chkOk ?_; kernel_rfl
    refine wpcall_q hI1 ?_; simp -implicitDefEqProofs -dsimp
    refine wpcall_q hI2 ?_; simp -implicitDefEqProofs -dsimp [k4, w1, w2, w3]
    refine wpcall_q hF1 ?_; simp -implicitDefEqProofs -dsimp [tvO, tvA, tvV, codeE, gV]
   rw [if_neg k4, if_neg k1] at hR; subst hR
   refine Fn_of Tryz.func117 rfl rfl (by simp -implicitDefEqProofs -dsimp) rfl ?_; simp only [Tryz.f117]
   simp -implicitDefEqProofs -dsimp [hd1, g1, g2, g3, hlt, hx2]
   refine ⟨?_, ?_⟩
   ·refine chkOk ?_; kernel_rfl
   refine ⟨?_, ?_⟩
   ·refine chkOk ?_; kernel_rfl
   refine wpcall_q hI1 ?_; simp -implicitDefEqProofs -dsimp
   refine wpcall_q hI2 ?_; simp -implicitDefEqProofs -dsimp [k1, k2, k3, k4]
   refine wpcall_q hF1 ?_; simp -implicitDefEqProofs -dsimp [tvO, tvA, tvV, codeE, gV]
end Go.Proofs.YtlfblkekbcfjpaaGreatDoor
namespace Go.Proofs.YtlfblkekbcfjpaaGreatDoor
open Go
set_option maxRecDepth 100000
set_option maxHeartbeats 20000000
theorem sgI_in {b : Bool} {n : Nat} (h : n < 100000000000000000) : In64 (sgI b n) := by unfold sgI In64; split <;> omega
theorem num4_n {neg s : Bool} {w f e : List UInt8} {a : Nat} (hw : (w ++ f).all isDg = true) : In64 (num4 neg w f s e a).1 := by
 unfold num4
 split
 ·exact ⟨by simp +zeta, by simp +zeta⟩
 ·rename_i h
  refine sgI_in ?_
  rw [← valD_dw]
  exact Nat.lt_of_lt_of_le (valD_lt (dw_all hw)) (Nat.pow_le_pow_right (n := 10) (by omega) (show _ ≤ 17 by omega))
theorem numP_n (l : List UInt8) (a : Nat) : In64 (numP l a).1 := by
 have z : In64 0 := ⟨by decide, by decide⟩
 have k3 : ∀ neg (w f : List UInt8) a3, w.all isDg = true → f.all isDg = true → In64 (num3 l neg w f a3).1 := fun neg w f a3 hw hf => by
  have hwf : (w ++ f).all isDg = true := by rw [List.all_append, hw, hf]; rfl
  unfold num3
  repeat' split
  all_goals first | exact z | exact num4_n hwf
 have k2 : ∀ neg (w : List UInt8) a2, w.all isDg = true → In64 (num2 l neg w a2).1 := fun neg w a2 hw => by
  unfold num2
  repeat' split
  all_goals first | exact z | exact k3 _ _ _ _ hw (dgs_all _ _) | exact k3 _ _ _ _ hw rfl
 have k1 : ∀ neg a1, In64 (num1 l neg a1).1 := fun neg a1 => by
  unfold num1
  split
  ·exact z
  ·rename_i h; exact k2 _ _ _ (wholeP_ok (dgs_all _ _) h).1
 unfold numP
 split <;> exact k1 _ _
theorem tokP_n {l : List UInt8} {a : Nat} {t : Tok} {e : Nat} (h : tokP l a = .ok (t, e)) : In64 t.n := by
 have z : In64 0 := ⟨by decide, by decide⟩
 unfold tokP at h
 generalize skipP l a = a at h
 unfold tokAt at h
 split at h
 ·cases h; exact z
 ·split at h
  ·cases h; exact z
  ·split at h
   ·cases hs : strQ l (a + 1) with
    | none => rw [hs] at h; cases h
    | some p => rw [hs] at h; cases h; exact z
   ·split at h
    ·split at h
     ·cases h; exact numP_n _ _
     ·cases h
    ·unfold wordP at h
     repeat' split at h
     all_goals first | (cases h; exact z) | cases h
theorem toksF_n {l : List UInt8} : ∀ (f a : Nat) {ts : List Tok}, toksF l f a = .ok ts → ∀ t ∈ ts, In64 t.n
 | 0, a, ts, h, t, ht => by cases h
 | f + 1, a, ts, h, t, ht => by
  unfold toksF at h
  cases h1 : tokP l a with
  | error c => rw [h1] at h; cases h
  | ok p =>
   obtain ⟨t1, e⟩ := p
   rw [h1] at h; simp only at h
   split at h
   ·cases h; cases ht
   ·cases h5 : toksF l f e with
    | error c => rw [h5] at h; cases h
    | ok us =>
     rw [h5] at h; cases h
     rcases List.mem_cons.1 ht with rfl | ht
     ·exact tokP_n h1
     ·exact toksF_n f e h5 t ht
def exG : Except Int GVal → GVal
 | .ok v => v
 | .error _ => zeroG
def readTextP (l : List UInt8) (d : Nat) : Except Int GVal := match toksQ l 0 with
 | .error c => .error c
 | .ok ts => treeP ts d
theorem toksQ_err_ne {l : List UInt8} {c : Int} (h : toksQ l 0 = .error c) : c = 1 ∨ c = 2 := by
 suffices k : ∀ f a, a ≤ l.length → toksF l f a = .error c → c = 1 ∨ c = 2 from k _ _ (Nat.zero_le _) h
 intro f
 induction f with
 | zero => intro a ha hx; cases hx; simp +zeta
 | succ f ih =>
  intro a ha hx
  unfold toksF at hx
  cases h1 : tokP l a with
  | error c1 => rw [h1] at hx; cases hx; exact tokP_err ha h1
  | ok p =>
   obtain ⟨t, e⟩ := p
   have h2 := tokP_len ha h1
   rw [h1] at hx; simp only at hx
   split at hx
   ·cases hx
   ·cases h5 : toksF l f e with
    | error c1 => rw [h5] at hx; cases hx; exact ih e h2.1 h5
    | ok us => rw [h5] at hx; cases hx
theorem itreeOf {ts : List Tok} {d : Nat} (hl : ts.length ≤ 1073741824) (hn : ∀ t ∈ ts, In64 t.n) (hd : d ≤ 1000000) :
  Fn Tryz.prog 80 [.sl (ts.map tkV), I d, .fn 81 []] [.un, .un, .un] [vF 27 (exG (treeP ts d)), I (codeE (treeP ts d))] := by
 generalize hR : treeP ts d = R
 unfold treeP at hR
 have hV := iValue hl hn d hd 0 (Nat.zero_le _)
 rcases hv : valueP ts d 0 with c | ⟨v, e⟩
 ·rw [hv] at hR hV; simp only at hR; subst hR
  have hc : ¬ c = 0 := by have := valueP_err d 0 c hv; omega
  simp -implicitDefEqProofs -dsimp [tvO, tvA, tvV, codeE, gV] at hV
  refine Fn_of Tryz.func80 rfl rfl (by simp -implicitDefEqProofs -dsimp) rfl ?_; simp only [Tryz.f80]
  simp -implicitDefEqProofs -dsimp
  refine wpcall_q hV ?_; simp -implicitDefEqProofs -dsimp [hc, exG, codeE, vF, zeroG]
  repeat' (first | with_reducible intro _ | with_reducible apply And.intro | (refine chkOk ?_; kernel_rfl))
 ·rw [hv] at hR hV; simp only at hR
  have hade := valueP_adv d 0 v e hv
  simp -implicitDefEqProofs -dsimp [tvO, tvA, tvV, codeE, vF] at hV
  by_cases he : e < ts.length
  ·rw [if_pos he] at hR; subst hR
   have he2 : (e : Int) < ts.length := by omega
   refine Fn_of Tryz.func80 rfl rfl (by simp -implicitDefEqProofs -dsimp) rfl ?_; simp only [Tryz.f80]
   simp -implicitDefEqProofs -dsimp
   refine wpcall_q hV ?_; simp -implicitDefEqProofs -dsimp [he, he2, exG, codeE, vF, zeroG]
   repeat' (first | with_reducible intro _ | with_reducible apply And.intro | (refine chkOk ?_; kernel_rfl))
  ·rw [if_neg he] at hR; subst hR
   have he2 : ¬ (e : Int) < ts.length := by omega
   refine Fn_of Tryz.func80 rfl rfl (by simp -implicitDefEqProofs -dsimp) rfl ?_; simp only [Tryz.f80]
   simp -implicitDefEqProofs -dsimp
   refine wpcall_q hV ?_; simp -implicitDefEqProofs -dsimp [he, he2, exG, codeE, vF, zeroG]
   repeat' (first | with_reducible intro _ | with_reducible apply And.intro | (refine chkOk ?_; kernel_rfl))
theorem iParseTokens {ts : List Tok} {d : Nat} (hl : ts.length ≤ 1073741824) (hn : ∀ t ∈ ts, In64 t.n) (hd : d ≤ 1000000) :
  Fn Tryz.prog 57 [.sl (ts.map tkV), I d] [.un, .un] [vF 27 (exG (treeP ts d)), I (codeE (treeP ts d))] := by
 have hT := itreeOf (d := d) hl hn hd
 generalize exG (treeP ts d) = g at *
 generalize codeE (treeP ts d) = c at *
 refine Fn_of Tryz.func57 rfl rfl (by simp -implicitDefEqProofs -dsimp) rfl ?_; simp only [Tryz.f57]
 simp -implicitDefEqProofs -dsimp [vF]; repeat' (first | with_reducible intro _ | with_reducible apply And.intro | (refine chkOk ?_; kernel_rfl) | (refine wpcall_d (hT) ?_; simp -implicitDefEqProofs -dsimp [vF]))
theorem iReadText {l : List UInt8} {d : Nat} (hl : l.length ≤ 1073741824) (hd : d ≤ 1000000) :
  Fn Tryz.prog 41 [T l, I d] [.un, .un] [vF 27 (exG (readTextP l d)), I (codeE (readTextP l d))] := by
 have hT := iTokens hl
 unfold readTextP
 cases ht : toksQ l 0 with
 | error c =>
  have hc := toksQ_err_ne ht
  have hc0 : ¬ c = 0 := by omega
  rw [ht] at hT
  simp -implicitDefEqProofs -dsimp [tksV, codeE] at hT
  refine Fn_of Tryz.func41 rfl rfl (by simp -implicitDefEqProofs -dsimp) rfl ?_; simp only [Tryz.f41]
  simp -implicitDefEqProofs -dsimp [hc0, exG, codeE, vF, zeroG]; repeat' (first | with_reducible intro _ | with_reducible apply And.intro | (refine chkOk ?_; kernel_rfl) | (refine wpcall_d (hT) ?_; simp -implicitDefEqProofs -dsimp [hc0, exG, codeE, vF, zeroG]))
 | ok ts =>
  rw [ht] at hT
  have hlen := toks_len _ _ (Nat.zero_le _) ht
  have hP := iParseTokens (d := d) (by omega) (toksF_n _ _ ht) hd
  simp -implicitDefEqProofs -dsimp [tksV, codeE] at hT
  simp only
  generalize exG (treeP ts d) = g at *
  generalize codeE (treeP ts d) = c at *
  refine Fn_of Tryz.func41 rfl rfl (by simp -implicitDefEqProofs -dsimp) rfl ?_; simp only [Tryz.f41]
  simp -implicitDefEqProofs -dsimp [vF]; repeat' (first | with_reducible intro _ | with_reducible apply And.intro | (refine chkOk ?_; kernel_rfl) | (refine wpcall_d (hT) ?_; simp -implicitDefEqProofs -dsimp [vF]) | (refine wpcall_q (hP) ?_; simp -implicitDefEqProofs -dsimp [vF]))
end Go.Proofs.YtlfblkekbcfjpaaGreatDoor
namespace Go.Proofs.YtlfblkekbcfjpaaGreatDoor
open Go
set_option maxRecDepth 100000
set_option maxHeartbeats 20000000
abbrev pB (ts : List Tok) (D : Int) (a : Nat) (c : Int) : V := .blk [.sl (ts.map tkV), I a, I D, I c]
def zTok : Tok := ⟨0, [], 0, 0⟩
def nextT (ts : List Tok) (a : Nat) : Tok := (ts[a]?).getD zTok
def nextA (ts : List Tok) (a : Nat) : Nat := if a < ts.length then a + 1 else a
theorem s11Next {ts : List Tok} {D c : Int} {a : Nat} (hl : ts.length ≤ 1073741824) (ha : a ≤ ts.length) : Fn Tryz.prog 93 [pB ts D a c] [pB ts D (nextA ts a) c] [tkV (nextT ts a)] := by
 by_cases hlt : a < ts.length
 ·obtain ⟨t, ht⟩ : ∃ t, ts[a]? = some t := ⟨_, List.getElem?_eq_getElem hlt⟩
  have hx2 : ts[a] = t := by rw [List.getElem?_eq_getElem hlt] at ht; exact Option.some.inj ht
  have e1 : nextT ts a = t := by unfold nextT; rw [ht]; rfl
  have e2 : nextA ts a = a + 1 := if_pos hlt
  have h1 : ¬ (ts.length : Int) ≤ a := by omega
  have h2 : wrK .i64 ((a : Int) + 1) = a + 1 := wrap64_id _ (by omega)
  have h3 : (a : Int) < ts.length := by omega
  rw [e1, e2]
  refine Fn_of Tryz.func93 rfl rfl (by simp -implicitDefEqProofs -dsimp) rfl ?_; simp only [Tryz.f93]
  simp -implicitDefEqProofs -dsimp [h1, h2, h3, hlt, hx2]; repeat' (first | with_reducible intro _ | with_reducible apply And.intro | (refine chkOk ?_; kernel_rfl))
 ·have e1 : nextT ts a = zTok := by unfold nextT; rw [List.getElem?_eq_none (by omega)]; rfl
  have e2 : nextA ts a = a := if_neg hlt
  have h1 : (ts.length : Int) ≤ a := by omega
  rw [e1, e2]
  refine Fn_of Tryz.func93 rfl rfl (by simp -implicitDefEqProofs -dsimp) rfl ?_; simp only [Tryz.f93]
  simp -implicitDefEqProofs -dsimp [h1, zTok]; repeat' (first | with_reducible intro _ | with_reducible apply And.intro | (refine chkOk ?_; kernel_rfl))
theorem s11Fail {ts : List Tok} {D k : Int} {a : Nat} : Fn Tryz.prog 92 [pB ts D a 0, I k] [pB ts D a k, .un] [vF 27 zeroG] := by
 refine Fn_of Tryz.func92 rfl rfl (by simp -implicitDefEqProofs -dsimp) rfl ?_; simp only [Tryz.f92]
 simp -implicitDefEqProofs -dsimp [vF, zeroG]
theorem s11Is {t : Tok} {x : UInt8} : Fn Tryz.prog 139 [tkV t, T [x]] [.un, .un] [B (isSgn t x)] := by
 refine Fn_of Tryz.func139 rfl rfl (by simp -implicitDefEqProofs -dsimp) rfl ?_; simp only [Tryz.f139]
 simp -implicitDefEqProofs -dsimp [isSgn]
theorem s11Peek {ts : List Tok} {D c : Int} {a : Nat} {x : UInt8} (hl : ts.length ≤ 1073741824) : Fn Tryz.prog 138 [pB ts D a c, T [x]] [pB ts D a c, .un] [B (sgnAt ts a x)] := by
 by_cases hlt : a < ts.length
 ·obtain ⟨t, ht⟩ : ∃ t, ts[a]? = some t := ⟨_, List.getElem?_eq_getElem hlt⟩
  have hx2 : ts[a] = t := by rw [List.getElem?_eq_getElem hlt] at ht; exact Option.some.inj ht
  have e1 : sgnAt ts a x = isSgn t x := by unfold sgnAt; rw [ht]
  have h3 : (a : Int) < ts.length := by omega
  rw [e1]
  refine Fn_of Tryz.func138 rfl rfl (by simp -implicitDefEqProofs -dsimp) rfl ?_; simp only [Tryz.f138]
  simp -implicitDefEqProofs -dsimp [h3, hlt, hx2]; repeat' (first | with_reducible intro _ | with_reducible apply And.intro | (refine chkOk ?_; kernel_rfl) | (refine wpcall_d (s11Is) ?_; simp -implicitDefEqProofs -dsimp [h3, hlt, hx2]))
 ·have e1 : sgnAt ts a x = false := by unfold sgnAt; rw [List.getElem?_eq_none (by omega)]
  have h3 : ¬ (a : Int) < ts.length := by omega
  rw [e1]
  refine Fn_of Tryz.func138 rfl rfl (by simp -implicitDefEqProofs -dsimp) rfl ?_; simp only [Tryz.f138]
  simp -implicitDefEqProofs -dsimp [h3, hlt]
  refine WC_nr [B false] (by simp -implicitDefEqProofs -dsimp) ?_; simp -implicitDefEqProofs -dsimp
  refine chkOk ?_; kernel_rfl
def tA : Except Int (GVal × Nat) → V
 | .ok p => I p.2
 | .error _ => .un
abbrev tO (ts : List Tok) (D : Int) (o : Except Int (GVal × Nat)) : V := .blk [.sl (ts.map tkV), tA o, I D, I (codeE o)]
def tG : Except Int (GVal × Nat) → GVal
 | .ok p => p.1
 | .error _ => zeroG
theorem isSgn_next {ts : List Tok} {a : Nat} {c : UInt8} : isSgn (nextT ts a) c = sgnAt ts a c := by
 unfold nextT sgnAt
 cases ts[a]? <;> rfl
theorem nextA_sgn {ts : List Tok} {a : Nat} {c : UInt8} (h : sgnAt ts a c = true) : nextA ts a = a + 1 := if_pos (sgnAt_lt h)
def TreeC (ts : List Tok) (D : Int) (d : Nat) : Prop := ∀ a, a ≤ ts.length → Fn Tryz.prog 64 [pB ts D a 0, I (D - d + 1)] [tO ts D (valueP ts d a), .un] [vF 27 (tG (valueP ts d a))]
theorem s11Many_l {ts : List Tok} {D : Int} {d a : Nat} {x : UInt8} (hl : ts.length ≤ 1073741824) (hD : 0 ≤ D ∧ D ≤ 1000000) (hd : d ≤ D) (hT : TreeC ts D d) (ha : a ≤ ts.length) :
  Fn Tryz.prog 97 [pB ts D a 0, I (D - d), I 9, T [x]] [tO ts D (listE 9 (elemsP ts (valueP ts d) false x a)), .un, .un, .un] [vF 27 (tG (listE 9 (elemsP ts (valueP ts d) false x a)))] := by
 generalize hR : listE 9 (elemsP ts (valueP ts d) false x a) = R
 unfold elemsP at hR
 have hP := s11Peek (ts := ts) (D := D) (c := 0) (a := a) (x := x) hl
 have hN := s11Next (ts := ts) (D := D) (c := 0) (a := a) hl ha
 cases hs : sgnAt ts a x with
 | true =>
  rw [if_pos hs] at hR; subst hR
  rw [hs] at hP; rw [nextA_sgn hs] at hN
  refine Fn_of Tryz.func97 rfl rfl (by simp -implicitDefEqProofs -dsimp) (rfl) ?_; simp only [Tryz.f97]
  simp -implicitDefEqProofs -dsimp
  refine wpcall_q hP ?_; simp -implicitDefEqProofs -dsimp
  refine wpcall_q hN ?_; simp -implicitDefEqProofs -dsimp [tO, tA, codeE, tG, vF, listE]
 | false =>
  rw [if_neg (by rw [hs]; decide)] at hR
  rw [hs] at hP
  have hadv := valueP_adv (ts := ts) d
  have w1 : wrK .i64 (D - d + 1) = D - d + 1 := wrap64_id _ (by omega)
  refine Fn_of Tryz.func97 rfl rfl (by simp -implicitDefEqProofs -dsimp) (by rcases R with _ | ⟨_, _⟩ <;> rfl) ?_; simp only [Tryz.f97]
  simp -implicitDefEqProofs -dsimp
  refine wpcall_q hP ?_; simp -implicitDefEqProofs -dsimp
  refine WL_loop (fun p : List GVal × Nat => [(0, pB ts D p.2 0), (1, I (D - d)), (2, I 9), (3, T [x]), (8, .blk [I 0, I 0, I 0, T [], .nil]), (9, .blk [I 9, I 0, I 0, T [], .row true 27 (p.1.map vV)])]) (fun p => ts.length - p.2) (fun p => p.2 ≤ ts.length ∧ p.1.length ≤ 2 * p.2 ∧ listE 9 (gApp p.1 (manyQ ts (valueP ts d) false x p.2)) = R) ([], a) ⟨ha, by simp, by rw [gApp_nil]; exact hR⟩ ?_ ?_
  ·simp -implicitDefEqProofs -dsimp
  ·clear hR hP hN hs ha
   rintro ⟨xs, a⟩ ⟨ha, hlen, hR⟩
   simp only at ha hlen hR ⊢
   have hTa := hT a ha
   have hb : (xs.length + 1) * 64 ≤ 1099511627776 := by omega
   rcases hv : valueP ts d a with c | ⟨v, e⟩
   ·rw [hv] at hTa
    have hc : ¬ c = 0 := by have := valueP_err d a c hv; omega
    have hi : itemP ts (valueP ts d) false a = .error c := by unfold itemP; rw [if_neg (by decide), hv]
    rw [manyQ_err ha hi] at hR; simp -implicitDefEqProofs -dsimp [gApp, listE] at hR; subst hR
    simp -implicitDefEqProofs -dsimp [tO, tA, codeE, tG, vF, zeroG] at hTa
    simp -implicitDefEqProofs -dsimp [-head_L, w1]
    refine wpcall_q hTa ?_; simp -implicitDefEqProofs -dsimp [-head_L, hc, hb, tO, tA, codeE, tG, vF, zeroG]
   ·rw [hv] at hTa
    have hade := hadv a v e hv
    have hi : itemP ts (valueP ts d) false a = .ok ([v], e) := by unfold itemP; rw [if_neg (by decide), hv]
    have hN := s11Next (ts := ts) (D := D) (c := 0) (a := e) hl hade.2
    have hI1 := @s11Is (nextT ts e) x
    have hI2 := @s11Is (nextT ts e) 44
    rw [isSgn_next] at hI1 hI2
    simp -implicitDefEqProofs -dsimp [tO, tA, codeE, tG, vF] at hTa
    cases hsx : sgnAt ts e x with
    | true =>
     rw [manyQ_shut ha hi hsx] at hR; simp -implicitDefEqProofs -dsimp [gApp, listE] at hR; subst hR
     rw [hsx] at hI1; rw [nextA_sgn hsx] at hN
     simp -implicitDefEqProofs -dsimp [-head_L, w1]
     refine wpcall_q hTa ?_; simp -implicitDefEqProofs -dsimp [-head_L, hb]
     refine wpcall_q hN ?_; simp -implicitDefEqProofs -dsimp [-head_L]
     refine wpcall_d hI1 ?_; simp -implicitDefEqProofs -dsimp [-head_L, tO, tA, codeE, tG, vF]
    | false =>
     rw [hsx] at hI1
     have hF := s11Fail (ts := ts) (D := D) (k := 1) (a := nextA ts e)
     cases hsc : sgnAt ts e 44 with
     | false =>
      rw [hsc] at hI2
      rw [manyQ_bad ha hi hsx hsc] at hR; simp -implicitDefEqProofs -dsimp [gApp, listE] at hR; subst hR
      simp -implicitDefEqProofs -dsimp [-head_L, w1]
      refine wpcall_q hTa ?_; simp -implicitDefEqProofs -dsimp [-head_L, hb]
      refine wpcall_q hN ?_; simp -implicitDefEqProofs -dsimp [-head_L]
      refine wpcall_d hI1 ?_; simp -implicitDefEqProofs -dsimp [-head_L]
      refine wpcall_d hI2 ?_; simp -implicitDefEqProofs -dsimp [-head_L]
      refine wpcall_q hF ?_; simp -implicitDefEqProofs -dsimp [-head_L, tO, tA, codeE, tG, vF, zeroG]
     | true =>
      rw [hsc] at hI2; rw [nextA_sgn hsc] at hN
      have hlt := sgnAt_lt hsc
      rw [manyQ_step hadv ha hi hsx hsc] at hR
      simp -implicitDefEqProofs -dsimp [-head_L, -endOk, w1]
      refine wpcall_q hTa ?_; simp -implicitDefEqProofs -dsimp [-head_L, -endOk, hb]
      refine wpcall_q hN ?_; simp -implicitDefEqProofs -dsimp [-head_L, -endOk]
      refine wpcall_d hI1 ?_; simp -implicitDefEqProofs -dsimp [-head_L, -endOk]
      refine wpcall_d hI2 ?_; simp -implicitDefEqProofs -dsimp [-head_L, -endOk]
      refine ⟨xs ++ [v], e + 1, ⟨by omega, by simp -implicitDefEqProofs -dsimp; omega, hR⟩, by omega, ?_⟩
      simp -implicitDefEqProofs -dsimp
theorem s11Many_m {ts : List Tok} {D : Int} {d a : Nat} {x : UInt8} (hl : ts.length ≤ 1073741824) (hD : 0 ≤ D ∧ D ≤ 1000000) (hd : d ≤ D) (hT : TreeC ts D d) (ha : a ≤ ts.length) :
  Fn Tryz.prog 97 [pB ts D a 0, I (D - d), I 10, T [x]] [tO ts D (listE 10 (elemsP ts (valueP ts d) true x a)), .un, .un, .un] [vF 27 (tG (listE 10 (elemsP ts (valueP ts d) true x a)))] := by
 generalize hR : listE 10 (elemsP ts (valueP ts d) true x a) = R
 unfold elemsP at hR
 have hP := s11Peek (ts := ts) (D := D) (c := 0) (a := a) (x := x) hl
 have hN := s11Next (ts := ts) (D := D) (c := 0) (a := a) hl ha
 cases hs : sgnAt ts a x with
 | true =>
  rw [if_pos hs] at hR; subst hR
  rw [hs] at hP; rw [nextA_sgn hs] at hN
  refine Fn_of Tryz.func97 rfl rfl (by simp -implicitDefEqProofs -dsimp) (rfl) ?_; simp only [Tryz.f97]
  simp -implicitDefEqProofs -dsimp
  refine wpcall_q hP ?_; simp -implicitDefEqProofs -dsimp
  refine wpcall_q hN ?_; simp -implicitDefEqProofs -dsimp [tO, tA, codeE, tG, vF, listE]
 | false =>
  rw [if_neg (by rw [hs]; decide)] at hR
  rw [hs] at hP
  have hadv := valueP_adv (ts := ts) d
  have w1 : wrK .i64 (D - d + 1) = D - d + 1 := wrap64_id _ (by omega)
  refine Fn_of Tryz.func97 rfl rfl (by simp -implicitDefEqProofs -dsimp) (by rcases R with _ | ⟨_, _⟩ <;> rfl) ?_; simp only [Tryz.f97]
  simp -implicitDefEqProofs -dsimp
  refine wpcall_q hP ?_; simp -implicitDefEqProofs -dsimp
  refine WL_loop (fun p : List GVal × Nat => [(0, pB ts D p.2 0), (1, I (D - d)), (2, I 10), (3, T [x]), (8, .blk [I 0, I 0, I 0, T [], .nil]), (9, .blk [I 10, I 0, I 0, T [], .row true 27 (p.1.map vV)])]) (fun p => ts.length - p.2) (fun p => p.2 ≤ ts.length ∧ p.1.length ≤ 2 * p.2 ∧ listE 10 (gApp p.1 (manyQ ts (valueP ts d) true x p.2)) = R) ([], a) ⟨ha, by simp, by rw [gApp_nil]; exact hR⟩ ?_ ?_
  ·simp -implicitDefEqProofs -dsimp
  ·clear hR hP hN hs ha
   rintro ⟨xs, a⟩ ⟨ha, hlen, hR⟩
   simp only at ha hlen hR ⊢
   have hN := s11Next (ts := ts) (D := D) (c := 0) (a := a) hl ha
   by_cases hk : (nextT ts a).k = 2
   case neg =>
    have hnm : nameP ts a = none := by
     unfold nameP nextT at *
     cases ht : ts[a]? with
     | none => rfl
     | some t => rw [ht] at hk; simp only; rw [if_neg (fun h => hk h.1)]
    have hi : itemP ts (valueP ts d) true a = .error 1 := by unfold itemP; rw [if_pos rfl, hnm]
    rw [manyQ_err ha hi] at hR; simp -implicitDefEqProofs -dsimp [gApp, listE] at hR; subst hR
    have hF := s11Fail (ts := ts) (D := D) (k := 1) (a := nextA ts a)
    simp -implicitDefEqProofs -dsimp [-head_L]
    refine wpcall_q hN ?_; simp -implicitDefEqProofs -dsimp [-head_L, hk]
    refine WC_nr [tkV zTok] (by simp -implicitDefEqProofs -dsimp) ?_; simp -implicitDefEqProofs -dsimp [-head_L, hk, zTok]
    refine WC_nr [B false] (by simp -implicitDefEqProofs -dsimp) ?_; simp -implicitDefEqProofs -dsimp [-head_L, hk]
    refine wpcall_q hF ?_; simp -implicitDefEqProofs -dsimp [-head_L, tO, tA, codeE, tG, vF, zeroG]
   have hlt : a < ts.length := by
    rcases Nat.lt_or_ge a ts.length with h | h
    ·exact h
    ·unfold nextT at hk; rw [List.getElem?_eq_none h] at hk; cases hk
   obtain ⟨t, ht⟩ : ∃ t, ts[a]? = some t := ⟨_, List.getElem?_eq_getElem hlt⟩
   have htn : nextT ts a = t := by unfold nextT; rw [ht]; rfl
   rw [show nextA ts a = a + 1 from if_pos hlt, htn] at hN
   rw [htn] at hk
   have hN2 := s11Next (ts := ts) (D := D) (c := 0) (a := a + 1) hl (by omega)
   have hI := @s11Is (nextT ts (a + 1)) 58
   rw [isSgn_next] at hI
   cases hcol : sgnAt ts (a + 1) 58 with
   | false =>
    rw [hcol] at hI
    have hnm : nameP ts a = none := by unfold nameP; rw [ht]; simp only; rw [if_neg (fun h => by rw [hcol] at h; cases h.2)]
    have hi : itemP ts (valueP ts d) true a = .error 1 := by unfold itemP; rw [if_pos rfl, hnm]
    rw [manyQ_err ha hi] at hR; simp -implicitDefEqProofs -dsimp [gApp, listE] at hR; subst hR
    have hF := s11Fail (ts := ts) (D := D) (k := 1) (a := nextA ts (a + 1))
    simp -implicitDefEqProofs -dsimp [-head_L]
    refine wpcall_q hN ?_; simp -implicitDefEqProofs -dsimp [-head_L, hk]
    refine wpcall_q hN2 ?_; simp -implicitDefEqProofs -dsimp [-head_L]
    refine wpcall_d hI ?_; simp -implicitDefEqProofs -dsimp [-head_L]
    refine wpcall_q hF ?_; simp -implicitDefEqProofs -dsimp [-head_L, tO, tA, codeE, tG, vF, zeroG]
   | true =>
    have hlt2 := sgnAt_lt hcol
    rw [hcol] at hI; rw [nextA_sgn hcol] at hN2
    have hnm : nameP ts a = some t.s := by unfold nameP; rw [ht]; simp only; rw [if_pos ⟨hk, hcol⟩]
    have hX := @sTextVal t.s
    have hTa := hT (a + 2) (by omega)
    have e12 : (a : Int) + 1 + 1 = a + 2 := by omega
    have hb : (xs.length + 1) * 64 ≤ 1099511627776 := by omega
    have hb2 : (xs.length + 2) * 64 ≤ 1099511627776 := by clear hR; omega
    rcases hv : valueP ts d (a + 2) with c | ⟨v, e⟩
    ·rw [hv] at hTa
     have hc : ¬ c = 0 := by have := valueP_err d (a + 2) c hv; omega
     have hi : itemP ts (valueP ts d) true a = .error c := by unfold itemP; rw [if_pos rfl, hnm]; simp only; rw [hv]
     rw [manyQ_err ha hi] at hR; simp -implicitDefEqProofs -dsimp [gApp, listE] at hR; subst hR
     simp -implicitDefEqProofs -dsimp [tO, tA, codeE, tG, vF, zeroG] at hTa
     simp -implicitDefEqProofs -dsimp [-head_L, w1]
     refine wpcall_q hN ?_; simp -implicitDefEqProofs -dsimp [-head_L, hk]
     refine wpcall_q hN2 ?_; simp -implicitDefEqProofs -dsimp [-head_L]
     refine wpcall_d hI ?_; simp -implicitDefEqProofs -dsimp [-head_L]
     refine wpcall_d hX ?_; simp -implicitDefEqProofs -dsimp [-head_L, hb, vF, txG]
     refine ⟨?_, ?_⟩
     ·refine chkOk ?_; kernel_rfl
     refine wpcall_q hTa ?_; simp -implicitDefEqProofs -dsimp [-head_L, w1, e12, hc, hb2, tO, tA, codeE, tG, vF, zeroG]
    ·rw [hv] at hTa
     have hade := hadv (a + 2) v e hv
     have hi : itemP ts (valueP ts d) true a = .ok ([txG t.s, v], e) := by unfold itemP; rw [if_pos rfl, hnm]; simp only; rw [hv]
     have hN3 := s11Next (ts := ts) (D := D) (c := 0) (a := e) hl hade.2
     have hI1 := @s11Is (nextT ts e) x
     have hI2 := @s11Is (nextT ts e) 44
     rw [isSgn_next] at hI1 hI2
     simp -implicitDefEqProofs -dsimp [tO, tA, codeE, tG, vF] at hTa
     cases hsx : sgnAt ts e x with
     | true =>
      rw [manyQ_shut ha hi hsx] at hR; simp -implicitDefEqProofs -dsimp [gApp, listE] at hR; subst hR
      rw [hsx] at hI1; rw [nextA_sgn hsx] at hN3
      simp -implicitDefEqProofs -dsimp [-head_L, w1]
      refine wpcall_q hN ?_; simp -implicitDefEqProofs -dsimp [-head_L, hk]
      refine wpcall_q hN2 ?_; simp -implicitDefEqProofs -dsimp [-head_L]
      refine wpcall_d hI ?_; simp -implicitDefEqProofs -dsimp [-head_L]
      refine wpcall_d hX ?_; simp -implicitDefEqProofs -dsimp [-head_L, hb, vF, txG]
      refine ⟨?_, ?_⟩
      ·refine chkOk ?_; kernel_rfl
      refine wpcall_q hTa ?_; simp -implicitDefEqProofs -dsimp [-head_L, w1, e12, hb2]
      refine wpcall_q hN3 ?_; simp -implicitDefEqProofs -dsimp [-head_L]
      refine wpcall_d hI1 ?_; simp -implicitDefEqProofs -dsimp [-head_L, tO, tA, codeE, tG, vF, txG]
     | false =>
      rw [hsx] at hI1
      cases hsc : sgnAt ts e 44 with
      | false =>
       rw [hsc] at hI2
       have hF := s11Fail (ts := ts) (D := D) (k := 1) (a := nextA ts e)
       rw [manyQ_bad ha hi hsx hsc] at hR; simp -implicitDefEqProofs -dsimp [gApp, listE] at hR; subst hR
       simp -implicitDefEqProofs -dsimp [-head_L, w1]
       refine wpcall_q hN ?_; simp -implicitDefEqProofs -dsimp [-head_L, hk]
       refine wpcall_q hN2 ?_; simp -implicitDefEqProofs -dsimp [-head_L]
       refine wpcall_d hI ?_; simp -implicitDefEqProofs -dsimp [-head_L]
       refine wpcall_d hX ?_; simp -implicitDefEqProofs -dsimp [-head_L, hb, vF, txG]
       refine ⟨?_, ?_⟩
       ·refine chkOk ?_; kernel_rfl
       refine wpcall_q hTa ?_; simp -implicitDefEqProofs -dsimp [-head_L, w1, e12, hb2]
       refine wpcall_q hN3 ?_; simp -implicitDefEqProofs -dsimp [-head_L]
       refine wpcall_d hI1 ?_; simp -implicitDefEqProofs -dsimp [-head_L]
       refine wpcall_d hI2 ?_; simp -implicitDefEqProofs -dsimp [-head_L]
       refine wpcall_q hF ?_; simp -implicitDefEqProofs -dsimp [-head_L, tO, tA, codeE, tG, vF, zeroG]
      | true =>
       have hlt3 := sgnAt_lt hsc
       rw [hsc] at hI2; rw [nextA_sgn hsc] at hN3
       rw [manyQ_step hadv ha hi hsx hsc] at hR
       simp -implicitDefEqProofs -dsimp [-head_L, -endOk, w1]
       refine wpcall_q hN ?_; simp -implicitDefEqProofs -dsimp [-head_L, -endOk, hk]
       refine wpcall_q hN2 ?_; simp -implicitDefEqProofs -dsimp [-head_L, -endOk]
       refine wpcall_d hI ?_; simp -implicitDefEqProofs -dsimp [-head_L, -endOk]
       refine wpcall_d hX ?_; simp -implicitDefEqProofs -dsimp [-head_L, -endOk, hb, vF, txG]
       refine ⟨?_, ?_⟩
       ·refine chkOk ?_; kernel_rfl
       refine wpcall_q hTa ?_; simp -implicitDefEqProofs -dsimp [-head_L, -endOk, w1, e12, hb2]
       refine wpcall_q hN3 ?_; simp -implicitDefEqProofs -dsimp [-head_L, -endOk]
       refine wpcall_d hI1 ?_; simp -implicitDefEqProofs -dsimp [-head_L, -endOk]
       refine wpcall_d hI2 ?_; simp -implicitDefEqProofs -dsimp [-head_L, -endOk]
       refine ⟨xs ++ [txG t.s, v], e + 1, ⟨by omega, by simp -implicitDefEqProofs -dsimp; omega, hR⟩, by omega, ?_⟩
       simp -implicitDefEqProofs -dsimp [txG]
end Go.Proofs.YtlfblkekbcfjpaaGreatDoor
