/- Part of a proof: contracts and plain laws. -/
import Derived.Test.YtlfblkekbcfjpaaGreatDoorZ28
set_option linter.unusedVariables false
set_option linter.unusedSimpArgs false
namespace Go.Proofs.YtlfblkekbcfjpaaGreatDoor
open Go
set_option maxRecDepth 100000
set_option maxHeartbeats 2000000
def qR : Option (List Nat × Nat) → List UInt8 × Int × Int
 | some p => (TX p.1, p.2, 0)
 | none => ([], 0, 1)
def quoteR (l : List UInt8) (a : Nat) : List UInt8 × Int × Int := qR (strQ l (a + 1))
def qApp (cs : List Nat) (o : Option (List Nat × Nat)) : Option (List Nat × Nat) := o.map fun q => (cs ++ q.1, q.2)
theorem qApp_nil (o : Option (List Nat × Nat)) : qApp [] o = o := by cases o <;> rfl
theorem qApp_cons (cs : List Nat) (n : Nat) (o : Option (List Nat × Nat)) : qApp cs (o.map fun p => (n :: p.1, p.2)) = qApp (cs ++ [n]) o := by cases o <;> simp -implicitDefEqProofs -dsimp [qApp]
theorem getRuneP_nat {l : List UInt8} {a : Nat} : getRuneP l a = match getP (l.drop a) with | some p => (((p.1 : Int), (a : Int) + p.2), true) | none => ((0, 0), false) := by
 unfold getRuneP; rw [if_neg (by omega)]; rfl
theorem letterP_none {l : List UInt8} {e : Nat} (h : ¬ byN l e = 92) (hp : getP (l.drop e) = none) : letterP l e = none := by
 unfold letterP; rw [if_neg h, hp]
theorem letterP_some {l : List UInt8} {e n w : Nat} (h : ¬ byN l e = 92) (hp : getP (l.drop e) = some (n, w)) : letterP l e = if n < 32 then none else some (n, e + w) := by
 unfold letterP; rw [if_neg h, hp]
theorem sReadQuoted {l : List UInt8} {a : Nat} (hl : l.length ≤ 1073741824) (hq : byN l a = 34) : Fn Tryz.prog 89 [T l, I a] [.un, .un] [T (quoteR l a).1, I (quoteR l a).2.1, I (quoteR l a).2.2] := by
 have ha := byN_lt_len (l := l) (a := a) (by omega)
 generalize hR : quoteR l a = R
 unfold quoteR at hR
 have c1 : ¬ (a : Int) < 0 := by omega
 have c2 : ¬ (l.length : Int) ≤ a := by omega
 have c3 : (a : Int) < l.length := by omega
 have c4 := byN_at ha
 rw [hq] at c4
 have c5 : wrK .i64 ((a : Int) + 1) = a + 1 := wrap64_id _ (by omega)
 have c6 : l.length ≤ 1099511627776 := by omega
 have c7 : ¬ l.length ≤ a := by omega
 refine Fn_of Tryz.func89 rfl rfl (by simp -implicitDefEqProofs -dsimp) rfl ?_; simp only [Tryz.f89]
 simp -implicitDefEqProofs -dsimp [c1, c2, c3, c4, c5, c6, c7, ha]
 refine WL_loop (fun p : List Nat × Nat => [(0, T l), (1, I p.2), (4, T []), (5, I 0), (6, I 0), (7, .row true 3 (p.1.map fun c : Nat => I (c : Int))), (8, Y l)]) (fun p => l.length - p.2) (fun p => p.2 ≤ l.length ∧ p.1.length ≤ p.2 ∧ (∀ c ∈ p.1, runeOkP c = true) ∧ qR (qApp p.1 (strQ l p.2)) = R) ([], a + 1) ⟨by simp only; omega, by simp, by simp, by simpa [qApp_nil] using hR⟩ ?_ ?_
 ·simp -implicitDefEqProofs -dsimp
 ·clear hR
  rintro ⟨cs, e⟩ ⟨he, hlen, hcs, hR⟩
  simp only at he hlen hcs hR ⊢
  by_cases hlt : e < l.length
  ·have d1 : (e : Int) < l.length := by omega
   have d2 := byN_at hlt
   have d3 : wrK .i64 ((e : Int) + 1) = e + 1 := wrap64_id _ (by omega)
   by_cases h34 : byN l e = 34
   ·rw [strQ_shut hlt h34] at hR; simp -implicitDefEqProofs -dsimp [qApp, qR] at hR; subst hR
    have hF := sFromRunes hcs (by omega)
    rw [h34] at d2
    simp -implicitDefEqProofs -dsimp [-head_L, d1, d2, hlt]
    refine wpcall_q hF ?_; simp -implicitDefEqProofs -dsimp [-head_L, d3]
   ·have h34' : ¬ (byN l e : Int) = 34 := by omega
    have hG := sGetRune (b := l) (at_ := e) (by omega)
    rw [getRuneP_nat] at hG
    have hb8 : (cs.length + 1) * 8 ≤ 1099511627776 := by omega
    by_cases h92 : byN l e = 92
    ·have hE := s9Escape (by omega) hlt h92
     have hL : letterP l e = escP l e := by unfold letterP; rw [if_pos h92]
     rw [h92] at d2
     cases hp : escP l e with
     | none =>
      rw [hp] at hL hE
      rw [strQ_bad h34 hL] at hR; simp -implicitDefEqProofs -dsimp [qApp, qR] at hR; subst hR
      simp -implicitDefEqProofs -dsimp [optN] at hE
      simp -implicitDefEqProofs -dsimp [-head_L, d1, d2, hlt, d3]
      refine wpcall_d hG ?_; simp -implicitDefEqProofs -dsimp [-head_L, d1, d2, hlt, d3]
      refine wpcall_d hE ?_; simp -implicitDefEqProofs -dsimp [-head_L]
     | some q =>
      obtain ⟨n, e2⟩ := q
      rw [hp] at hL hE
      have hle := letterP_len hL
      have hru := letterP_rune hL
      rw [strQ_step h34 hL, qApp_cons] at hR
      simp -implicitDefEqProofs -dsimp [optN] at hE
      simp -implicitDefEqProofs -dsimp [-head_L, -endOk, d1, d2, hlt, d3]
      refine wpcall_d hG ?_; simp -implicitDefEqProofs -dsimp [-head_L, -endOk, d1, d2, hlt, d3]
      refine wpcall_d hE ?_; simp -implicitDefEqProofs -dsimp [-head_L, -endOk, hb8]
      refine ⟨cs ++ [n], e2, ⟨hle.2, by simp -implicitDefEqProofs -dsimp; omega, fun c hc => ?_, hR⟩, by omega, ?_⟩
      ·rcases List.mem_append.1 hc with h | h
       ·exact hcs c h
       ·simp at h; subst h; exact hru
      ·simp -implicitDefEqProofs -dsimp
    ·have h92' : ¬ (byN l e : Int) = 92 := by omega
     cases hp : getP (l.drop e) with
     | none =>
      have hL := letterP_none h92 hp
      rw [hp] at hG
      rw [strQ_bad h34 hL] at hR; simp -implicitDefEqProofs -dsimp [qApp, qR] at hR; subst hR
      simp at hG
      simp -implicitDefEqProofs -dsimp [-head_L, d1, d2, hlt, d3, h34']
      refine wpcall_d hG ?_; simp -implicitDefEqProofs -dsimp [-head_L, d1, d2, hlt, d3, h92']
     | some q =>
      obtain ⟨n, w⟩ := q
      have hL := letterP_some h92 hp
      rw [hp] at hG
      simp at hG
      by_cases hn : n < 32
      ·rw [if_pos hn] at hL
       rw [strQ_bad h34 hL] at hR; simp -implicitDefEqProofs -dsimp [qApp, qR] at hR; subst hR
       have hn2 : ¬ (32 : Int) ≤ n := by omega
       simp -implicitDefEqProofs -dsimp [-head_L, d1, d2, hlt, d3, h34']
       refine wpcall_d hG ?_; simp -implicitDefEqProofs -dsimp [-head_L, d1, d2, hlt, d3, h92', hn2]
      ·rw [if_neg hn] at hL
       have hn2 : (32 : Int) ≤ n := by omega
       have hle := letterP_len hL
       have hru := letterP_rune hL
       rw [strQ_step h34 hL, qApp_cons] at hR
       simp -implicitDefEqProofs -dsimp [-head_L, -endOk, d1, d2, hlt, d3, h34']
       refine wpcall_d hG ?_; simp -implicitDefEqProofs -dsimp [-head_L, -endOk, d1, d2, hlt, d3, h92', hn2, hb8]
       refine ⟨cs ++ [n], e + w, ⟨hle.2, by simp -implicitDefEqProofs -dsimp; omega, fun c hc => ?_, hR⟩, by omega, ?_⟩
       ·rcases List.mem_append.1 hc with h | h
        ·exact hcs c h
        ·simp at h; subst h; exact hru
       ·simp -implicitDefEqProofs -dsimp
  ·have hend := strQ_end (l := l) (a := e) (by omega)
   rw [hend] at hR; simp -implicitDefEqProofs -dsimp [qApp, qR] at hR; subst hR
   have d1 : ¬ (e : Int) < l.length := by omega
   simp -implicitDefEqProofs -dsimp [-head_L, d1, hlt]
end Go.Proofs.YtlfblkekbcfjpaaGreatDoor
namespace Go.Proofs.YtlfblkekbcfjpaaGreatDoor
open Go
set_option maxRecDepth 100000
set_option maxHeartbeats 2000000
theorem decFrom_val : ∀ (l : List UInt8) (n : Nat), l.all isDg = true → Lib.decFrom n l = some (valFrom n l)
 | [], n, _ => rfl
 | x :: l, n, h => by
  simp only [List.all_cons, Bool.and_eq_true, isDg, decide_eq_true_eq] at h
  unfold Lib.decFrom Lib.digitVal
  rw [if_pos h.1]
  simp only
  rw [decFrom_val l _ (by simpa [isDg] using h.2)]
  simp -implicitDefEqProofs -dsimp [valFrom, Nat.mul_comm]
theorem atoi_val {l : List UInt8} (h : l.all isDg = true) : (Lib.atoi l).getD 0 = valD l := by
 cases l with
 | nil => rfl
 | cons x l =>
  have hx : 48 ≤ x.toNat ∧ x.toNat ≤ 57 := by
   simp only [List.all_cons, Bool.and_eq_true, isDg, decide_eq_true_eq] at h; exact h.1
  have e1 : (x == 45) = false := by rw [Bool.eq_false_iff]; intro e; simp at e; subst e; simp at hx
  have e2 : (x == 43) = false := by rw [Bool.eq_false_iff]; intro e; simp at e; subst e; simp at hx
  simp only [Lib.atoi, e1, e2, Lib.decNat, decFrom_val _ _ h]; rfl
theorem iReadNumber {l : List UInt8} {a : Nat} (hl : l.length ≤ 1099511627776) (ha : a ≤ l.length) : Fn Tryz.prog 115 [T l, I a] [.un, .un] [I (numP l a).1, I (numP l a).2.1, I (numP l a).2.2.1, I (numP l a).2.2.2] := by
 generalize hR : numP l a = R
 refine Fn_ofW Tryz.func115 rfl rfl (by simp -implicitDefEqProofs -dsimp) rfl ?_; simp only [Tryz.f115]
 refine W_cutL (l := [_, _, _, _]) (fun p : Nat × Bool => [(0, T l), (1, I p.1), (8, B p.2)]) (fun p => p.1 ≤ l.length ∧ num1 l p.2 p.1 = R) ?hb ?ha
 case ha =>
  unfold numP at hR
  have hB := ibyteAt (a := a) hl
  by_cases hm : byN l a = 45
  ·have hlt := byN_lt_len (l := l) (a := a) (by omega)
   have h5 : wrK .i64 ((a : Int) + 1) = a + 1 := wrap64_id _ (by omega)
   rw [if_pos hm] at hR
   simp -implicitDefEqProofs -dsimp [hm, h5, ha]; repeat' (first | with_reducible intro _ | with_reducible apply And.intro | (refine chkOk ?_; kernel_rfl) | (refine wpcall_d (iwithin) ?_; simp -implicitDefEqProofs -dsimp [hm, h5, ha]) | (refine wpcall_d (hB) ?_; simp -implicitDefEqProofs -dsimp [hm, h5, ha]))
   refine At.mk (a + 1, true) ⟨by simp only; omega, hR⟩ ?_; simp -implicitDefEqProofs -dsimp
  ·rw [if_neg hm] at hR
   have hm2 : ¬ (byN l a : Int) = 45 := by omega
   simp -implicitDefEqProofs -dsimp [hm, hm2, ha]; repeat' (first | with_reducible intro _ | with_reducible apply And.intro | (refine chkOk ?_; kernel_rfl) | (refine wpcall_d (iwithin) ?_; simp -implicitDefEqProofs -dsimp [hm, hm2, ha]) | (refine wpcall_d (hB) ?_; simp -implicitDefEqProofs -dsimp [hm, hm2, ha]))
   refine At.mk (a, false) ⟨by simp only; omega, hR⟩ ?_; simp -implicitDefEqProofs -dsimp
 rintro ⟨a1, neg⟩ ⟨ha1, hR⟩
 simp only at ha1 hR ⊢
 clear ha
 have hd := idigitsFrom hl ha1
 have hdl := dgs_len l a1
 have hda := dgs_all l a1
 refine W_cutL (l := [_, _, _, _]) (fun p : List UInt8 => [(0, T l), (1, I ((a1 + p.length : Nat) : Int)), (8, B neg), (9, T p)]) (fun p => p.all isDg = true ∧ a1 + p.length ≤ l.length ∧ num2 l neg p (a1 + p.length) = R) ?hb1 ?ha1
 case ha1 =>
  unfold num1 at hR
  generalize dgs l a1 = w at *
  have hP := lHasPrefix (s := ⟨w.toArray⟩) (p := ⟨[48].toArray⟩)
  have h5 : wrK .i64 ((a1 : Int) + w.length) = a1 + w.length := wrap64_id _ (by omega)
  have h6 : wrK .i64 ((a1 : Int) + 1) = a1 + 1 := wrap64_id _ (by omega)
  cases w with
  | nil =>
   rw [if_pos rfl] at hR; subst hR
   simp -implicitDefEqProofs -dsimp [Lib.hasPrefix] at hP
   have h7 : wrK .i64 (a1 : Int) = a1 := wrap64_id _ (by omega)
   simp -implicitDefEqProofs -dsimp [h7]; repeat' (first | with_reducible intro _ | with_reducible apply And.intro | (refine chkOk ?_; kernel_rfl) | (refine wpcall_d (hd) ?_; simp -implicitDefEqProofs -dsimp [h7]) | (refine wpcall_d (hP) ?_; simp -implicitDefEqProofs -dsimp [h7]))
  | cons x t =>
   rw [if_neg (by simp -implicitDefEqProofs -dsimp)] at hR
   by_cases hx : x = 48
   ·subst hx
    have hwp : wholeP (48 :: t) = [48] := by simp -implicitDefEqProofs -dsimp [wholeP]
    rw [hwp] at hR
    simp -implicitDefEqProofs -dsimp [Lib.hasPrefix] at hP
    simp -implicitDefEqProofs -dsimp [h6]; repeat' (first | with_reducible intro _ | with_reducible apply And.intro | (refine chkOk ?_; kernel_rfl) | (refine wpcall_d (hd) ?_; simp -implicitDefEqProofs -dsimp [h6]) | (refine wpcall_d (hP) ?_; simp -implicitDefEqProofs -dsimp [h6]))
    refine At.mk [48] ⟨by decide, by simp at hdl ⊢; omega, hR⟩ ?_
    simp -implicitDefEqProofs -dsimp
   ·have hwp : wholeP (x :: t) = x :: t := by simp -implicitDefEqProofs -dsimp [wholeP, hx]
    have hx2 : ¬ 48 = x := fun h => hx h.symm
    rw [hwp] at hR
    have hpx : Lib.hasPrefix (x :: t) [48] = false := by simp -implicitDefEqProofs -dsimp [Lib.hasPrefix, List.isPrefixOf, hx2]
    simp -implicitDefEqProofs -dsimp [hpx] at hP
    simp at h5
    simp -implicitDefEqProofs -dsimp [h5]; repeat' (first | with_reducible intro _ | with_reducible apply And.intro | (refine chkOk ?_; kernel_rfl) | (refine wpcall_d (hd) ?_; simp -implicitDefEqProofs -dsimp [h5]) | (refine wpcall_d (hP) ?_; simp -implicitDefEqProofs -dsimp [h5]))
    refine At.mk (x :: t) ⟨hda, by simp at hdl ⊢; omega, hR⟩ ?_
    simp -implicitDefEqProofs -dsimp
 rintro w ⟨hw, ha2, hR⟩
 clear hd hdl hda
 obtain ⟨a2, ha2e⟩ : ∃ a2, a1 + w.length = a2 := ⟨_, rfl⟩
 rw [ha2e] at hR ha2 ⊢
 have hwl : w.length ≤ a2 := by omega
 clear ha2e ha1
 refine W_cutL (l := [_, _]) (fun p : List UInt8 × Nat => [(0, T l), (1, I p.2), (8, B neg), (9, T w), (10, T p.1)]) (fun p => p.1.all isDg = true ∧ p.2 ≤ l.length ∧ w.length + p.1.length ≤ p.2 ∧ num3 l neg w p.1 p.2 = R) ?hb2 ?ha2
 case ha2 =>
  unfold num2 at hR
  have hB := ibyteAt (a := a2) hl
  by_cases hm : byN l a2 = 46
  ·have hlt := byN_lt_len (l := l) (a := a2) (by omega)
   have hd := idigitsFrom (a := a2 + 1) hl (by omega)
   have hdl := dgs_len l (a2 + 1)
   have hda := dgs_all l (a2 + 1)
   simp only [Int.natCast_add, Int.cast_ofNat_Int] at hd
   have h5 : wrK .i64 ((a2 : Int) + 1) = a2 + 1 := wrap64_id _ (by omega)
   rw [if_pos hm] at hR
   generalize dgs l (a2 + 1) = f at *
   have h6 : wrK .i64 (1 + (f.length : Int)) = 1 + f.length := wrap64_id _ (by omega)
   have h7 : wrK .i64 ((a2 : Int) + (1 + f.length)) = a2 + 1 + f.length := by rw [wrap64_id _ (by omega)]; omega
   by_cases hf : f = []
   ·rw [if_pos hf] at hR; subst hf hR
    simp -implicitDefEqProofs -dsimp [hm, h5, h6, h7]; repeat' (first | with_reducible intro _ | with_reducible apply And.intro | (refine chkOk ?_; kernel_rfl) | (refine wpcall_d (hB) ?_; simp -implicitDefEqProofs -dsimp [hm, h5, h6, h7]) | (refine wpcall_d (hd) ?_; simp -implicitDefEqProofs -dsimp [hm, h5, h6, h7]))
   ·rw [if_neg hf] at hR
    simp -implicitDefEqProofs -dsimp [hm, h5, h6, h7, hf]; repeat' (first | with_reducible intro _ | with_reducible apply And.intro | (refine chkOk ?_; kernel_rfl) | (refine wpcall_d (hB) ?_; simp -implicitDefEqProofs -dsimp [hm, h5, h6, h7, hf]) | (refine wpcall_d (hd) ?_; simp -implicitDefEqProofs -dsimp [hm, h5, h6, h7, hf]))
    refine At.mk (f, a2 + 1 + f.length) ⟨hda, by simp only; omega, by simp only; omega, hR⟩ ?_
    simp -implicitDefEqProofs -dsimp
  ·rw [if_neg hm] at hR
   have hm2 : ¬ (byN l a2 : Int) = 46 := by omega
   simp -implicitDefEqProofs -dsimp [hm, hm2]; repeat' (first | with_reducible intro _ | with_reducible apply And.intro | (refine chkOk ?_; kernel_rfl) | (refine wpcall_d (hB) ?_; simp -implicitDefEqProofs -dsimp [hm, hm2]))
   refine At.mk ([], a2) ⟨rfl, ha2, by simpa using hwl, hR⟩ ?_
   simp -implicitDefEqProofs -dsimp
 rintro ⟨f, a3⟩ ⟨hf, ha3, hfl, hR⟩
 simp only at hf ha3 hfl hR ⊢
 refine W_cutL (l := [_, _]) (fun p : List UInt8 × Bool × Nat => [(0, T l), (1, I p.2.2), (8, B neg), (9, T w), (10, T f), (11, T p.1), (12, B p.2.1)]) (fun p => p.1.all isDg = true ∧ p.2.2 ≤ l.length ∧ num4 neg w f p.2.1 p.1 p.2.2 = R) ?hb3 ?ha3
 case ha3 =>
  unfold num3 at hR
  have hB := ibyteAt (a := a3) hl
  by_cases hE : byN l a3 = 101 ∨ byN l a3 = 69
  ·rw [if_pos hE] at hR
   have hlt := byN_lt_len (l := l) (a := a3) (by omega)
   have h5 : wrK .i64 ((a3 : Int) + 1) = a3 + 1 := wrap64_id _ (by omega)
   have h6 : wrK .i64 ((a3 : Int) + 1 + 1) = a3 + 2 := by rw [wrap64_id _ (by omega)]; omega
   have hB2 := ibyteAt (a := a3 + 1) hl
   simp only [Int.natCast_add, Int.cast_ofNat_Int] at hB2
   by_cases hS : byN l (a3 + 1) = 43 ∨ byN l (a3 + 1) = 45
   ·have hlt2 := byN_lt_len (l := l) (a := a3 + 1) (by omega)
    have hd := idigitsFrom (a := a3 + 2) hl (by omega)
    have hdl := dgs_len l (a3 + 2)
    have hda := dgs_all l (a3 + 2)
    simp only [Int.natCast_add, Int.cast_ofNat_Int] at hd
    rw [if_pos hS] at hR
    generalize dgs l (a3 + 2) = e at *
    have h7 : wrK .i64 ((a3 : Int) + 2 + e.length) = a3 + 2 + e.length := wrap64_id _ (by omega)
    have h8 : wrK .i64 ((a3 : Int) + 2) = a3 + 2 := wrap64_id _ (by omega)
    by_cases he : e = []
    ·rw [if_pos he] at hR; subst he hR
     rcases hE with hE | hE <;> rcases hS with hS | hS <;> (simp -implicitDefEqProofs -dsimp [hE, hS, h5, h6, h7, h8]; repeat' (first | with_reducible intro _ | with_reducible apply And.intro | (refine chkOk ?_; kernel_rfl) | (refine wpcall_d (hB) ?_; simp -implicitDefEqProofs -dsimp [hE, hS, h5, h6, h7, h8]) | (refine wpcall_d (hB2) ?_; simp -implicitDefEqProofs -dsimp [hE, hS, h5, h6, h7, h8]) | (refine wpcall_d (hd) ?_; simp -implicitDefEqProofs -dsimp [hE, hS, h5, h6, h7, h8])))
    ·rw [if_neg he] at hR
     rcases hE with hE | hE <;> rcases hS with hS | hS <;> (simp -implicitDefEqProofs -dsimp [hE, hS, h5, h6, h7, he]; repeat' (first | with_reducible intro _ | with_reducible apply And.intro | (refine chkOk ?_; kernel_rfl) | (refine wpcall_d (hB) ?_; simp -implicitDefEqProofs -dsimp [hE, hS, h5, h6, h7, he]) | (refine wpcall_d (hB2) ?_; simp -implicitDefEqProofs -dsimp [hE, hS, h5, h6, h7, he]) | (refine wpcall_d (hd) ?_; simp -implicitDefEqProofs -dsimp [hE, hS, h5, h6, h7, he])))
     all_goals
      rw [hS] at hR
      refine At.mk (e, _, a3 + 2 + e.length) ⟨hda, by simp only; omega, hR⟩ ?_
      simp -implicitDefEqProofs -dsimp
   ·have s1 : ¬ (byN l (a3 + 1) : Int) = 43 := by omega
    have s2 : ¬ (byN l (a3 + 1) : Int) = 45 := by omega
    have hd := idigitsFrom (a := a3 + 1) hl (by omega)
    have hdl := dgs_len l (a3 + 1)
    have hda := dgs_all l (a3 + 1)
    simp only [Int.natCast_add, Int.cast_ofNat_Int] at hd
    rw [if_neg hS] at hR
    generalize dgs l (a3 + 1) = e at *
    have h7 : wrK .i64 ((a3 : Int) + 1 + e.length) = a3 + 1 + e.length := wrap64_id _ (by omega)
    by_cases he : e = []
    ·rw [if_pos he] at hR; subst he hR
     rcases hE with hE | hE <;> (simp -implicitDefEqProofs -dsimp [hE, s1, s2, h5, h7]; repeat' (first | with_reducible intro _ | with_reducible apply And.intro | (refine chkOk ?_; kernel_rfl) | (refine wpcall_d (hB) ?_; simp -implicitDefEqProofs -dsimp [hE, s1, s2, h5, h7]) | (refine wpcall_d (hB2) ?_; simp -implicitDefEqProofs -dsimp [hE, s1, s2, h5, h7]) | (refine wpcall_d (hd) ?_; simp -implicitDefEqProofs -dsimp [hE, s1, s2, h5, h7])))
    ·rw [if_neg he] at hR
     rcases hE with hE | hE <;> (simp -implicitDefEqProofs -dsimp [hE, s1, s2, h5, h7, he]; repeat' (first | with_reducible intro _ | with_reducible apply And.intro | (refine chkOk ?_; kernel_rfl) | (refine wpcall_d (hB) ?_; simp -implicitDefEqProofs -dsimp [hE, s1, s2, h5, h7, he]) | (refine wpcall_d (hB2) ?_; simp -implicitDefEqProofs -dsimp [hE, s1, s2, h5, h7, he]) | (refine wpcall_d (hd) ?_; simp -implicitDefEqProofs -dsimp [hE, s1, s2, h5, h7, he])))
     all_goals
      refine At.mk (e, false, a3 + 1 + e.length) ⟨hda, by simp only; omega, hR⟩ ?_
      simp -implicitDefEqProofs -dsimp
  ·rw [if_neg hE] at hR
   have m1 : ¬ (byN l a3 : Int) = 101 := by omega
   have m2 : ¬ (byN l a3 : Int) = 69 := by omega
   simp -implicitDefEqProofs -dsimp [m1, m2]; repeat' (first | with_reducible intro _ | with_reducible apply And.intro | (refine chkOk ?_; kernel_rfl) | (refine wpcall_d (hB) ?_; simp -implicitDefEqProofs -dsimp [m1, m2]))
   refine At.mk ([], false, a3) ⟨rfl, ha3, hR⟩ ?_
   simp -implicitDefEqProofs -dsimp
 rintro ⟨e, s, a5⟩ ⟨he, ha5, hR⟩
 simp only at he ha5 hR ⊢
 refine wpc_sound _ _ _ ?_
 have hwf : (w ++ f).all isDg = true := by rw [List.all_append, hw, hf]; rfl
 have hda := dw_all (p := (· == 48)) hwf
 have hlt := valD_lt hda
 have hT := lTrimLeft (s := ⟨(w ++ f).toArray⟩) (c := 48) (by decide)
 simp only [Lib.trimLeftB] at hT
 have hat := atoi_val hda
 unfold num4 at hR
 rw [valD_dw] at hlt hat
 have hwfl : (w ++ f).length ≤ l.length := by simp -implicitDefEqProofs -dsimp; omega
 have hwf2 : w.length + f.length ≤ 9223372036854775807 := by omega
 generalize hDe : (w ++ f).dropWhile (· == 48) = D at *
 generalize valD (w ++ f) = N at *
 have hf2 : f.length ≤ 1099511627776 := by omega
 by_cases hD : D.length ≤ 17
 ·have hN : N < 100000000000000000 := Nat.lt_of_lt_of_le hlt (Nat.pow_le_pow_right (by omega) hD)
  have hA := lAtoi (s := ⟨D.toArray⟩) (by simp -implicitDefEqProofs -dsimp; omega)
  rw [show (ByteArray.mk D.toArray).data.toList = D by simp, hat] at hA
  have d1 : ¬ 17 < (D.length : Int) := by omega
  by_cases he3 : e.length ≤ 3
  ·have hE := valD_lt he
   have hE2 : valD e < 1000 := Nat.lt_of_lt_of_le hE (Nat.pow_le_pow_right (by omega) he3)
   have hA2 := lAtoi (s := ⟨e.toArray⟩) (by simp -implicitDefEqProofs -dsimp; omega)
   rw [show (ByteArray.mk e.toArray).data.toList = e by simp, atoi_val he] at hA2
   rw [if_neg (by omega)] at hR; subst hR
   have d2 : ¬ 3 < (e.length : Int) := by omega
   have e1 : wrK .i64 (-(N : Int)) = -N := wrap64_id _ (by omega)
   have e2 : wrK .i64 (-(valD e : Int)) = -valD e := wrap64_id _ (by omega)
   have e3 : ∀ b, wrK .i64 (sgI b (valD e) - f.length) = sgI b (valD e) - f.length := fun b => wrap64_id _ (by unfold sgI; split <;> omega)
   have e4 := e3 true
   have e5 := e3 false
   simp -implicitDefEqProofs -dsimp [sgI] at e4 e5
   cases neg <;> cases s <;> (simp -implicitDefEqProofs -dsimp [hwf2, d1, d2, e1, e2, e4, e5, sgI]; repeat' (first | with_reducible intro _ | with_reducible apply And.intro | (refine chkOk ?_; kernel_rfl) | (refine wpcall_d (hT) ?_; simp -implicitDefEqProofs -dsimp [hwf2, d1, d2, e1, e2, e4, e5, sgI]) | (refine wpcall_d (hA) ?_; simp -implicitDefEqProofs -dsimp [hwf2, d1, d2, e1, e2, e4, e5, sgI]) | (refine wpcall_d (hA2) ?_; simp -implicitDefEqProofs -dsimp [hwf2, d1, d2, e1, e2, e4, e5, sgI])))
  ·rw [if_pos (by omega)] at hR; subst hR
   have d2 : 3 < (e.length : Int) := by omega
   simp -implicitDefEqProofs -dsimp [hwf2, d1, d2]; repeat' (first | with_reducible intro _ | with_reducible apply And.intro | (refine chkOk ?_; kernel_rfl) | (refine wpcall_d (hT) ?_; simp -implicitDefEqProofs -dsimp [hwf2, d1, d2]))
 ·rw [if_pos (by omega)] at hR; subst hR
  have d1 : 17 < (D.length : Int) := by omega
  simp -implicitDefEqProofs -dsimp [hwf2, d1]; repeat' (first | with_reducible intro _ | with_reducible apply And.intro | (refine chkOk ?_; kernel_rfl) | (refine wpcall_d (hT) ?_; simp -implicitDefEqProofs -dsimp [hwf2, d1]))
end Go.Proofs.YtlfblkekbcfjpaaGreatDoor
namespace Go.Proofs.YtlfblkekbcfjpaaGreatDoor
open Go
set_option maxRecDepth 100000
set_option maxHeartbeats 2000000
theorem skipP_end {l : List UInt8} {a : Nat} (h : ∀ x, l[a]? = some x → isBl x = false) : skipP l a = a := by
 unfold skipP
 cases hd : l.drop a with
 | nil => simp -implicitDefEqProofs -dsimp
 | cons x r =>
  have : l[a]? = some x := by have := List.getElem?_drop (xs := l) (i := a) (j := 0); rw [hd] at this; simpa using this.symm
  rw [List.takeWhile_cons, h x this]; simp -implicitDefEqProofs -dsimp
theorem skipP_step {l : List UInt8} {a : Nat} {x : UInt8} (h : l[a]? = some x) (hx : isBl x = true) : skipP l a = skipP l (a + 1) := by
 unfold skipP
 have ha : a < l.length := by
  rcases Nat.lt_or_ge a l.length with h1 | h1
  ·exact h1
  ·rw [List.getElem?_eq_none h1] at h; cases h
 rw [List.drop_eq_getElem_cons ha, List.takeWhile_cons]
 have : l[a] = x := by rw [List.getElem?_eq_getElem ha] at h; exact Option.some.inj h
 rw [this, hx]; simp -implicitDefEqProofs -dsimp; omega
theorem skipP_le {l : List UInt8} {a : Nat} (h : a ≤ l.length) : a ≤ skipP l a ∧ skipP l a ≤ l.length := by
 unfold skipP
 have := (List.takeWhile_sublist isBl (l := l.drop a)).length_le
 rw [List.length_drop] at this; omega
theorem isBlF : ∀ i : Fin 256, Lib.indexByte [9, 10, 13, 32] (UInt8.ofNat i.val) = if i.val = 9 then 0 else if i.val = 10 then 1 else if i.val = 13 then 2 else if i.val = 32 then 3 else -1 := by decide
theorem isBl_iff (x : UInt8) : isBl x = true ↔ x.toNat = 9 ∨ x.toNat = 10 ∨ x.toNat = 13 ∨ x.toNat = 32 := by
 simp -implicitDefEqProofs -dsimp [isBl, ← UInt8.toNat_inj]; omega
theorem lBlank {x : UInt8} : Fn Tryz.prog 145 [T [9, 10, 13, 32], A8 x.toNat] [.un, .un] [I (if x.toNat = 9 then 0 else if x.toNat = 10 then 1 else if x.toNat = 13 then 2 else if x.toNat = 32 then 3 else -1)] := by
 have h := lIndexByte (s := ⟨#[9, 10, 13, 32]⟩) (c := x.toNat)
 have h2 := isBlF ⟨x.toNat, x.toNat_lt⟩
 rw [← h2]; exact h
theorem iSkip {l : List UInt8} {a : Nat} (hl : l.length ≤ 1099511627776) (ha : a ≤ l.length) : Fn Tryz.prog 111 [T l, I a] [.un, .un] [I (skipP l a)] := by
 generalize hR : skipP l a = R
 refine Fn_of Tryz.func111 rfl rfl (by simp -implicitDefEqProofs -dsimp) rfl ?_; simp only [Tryz.f111]
 simp -implicitDefEqProofs -dsimp [ha]; repeat' (first | with_reducible intro _ | with_reducible apply And.intro | (refine chkOk ?_; kernel_rfl) | (refine wpcall_d (iwithin) ?_; simp -implicitDefEqProofs -dsimp [ha]))
 refine WL_loop (fun e : Nat => [(0, T l), (1, I e), (4, I 0)]) (fun e => l.length - e) (fun e => e ≤ l.length ∧ skipP l e = R) a ⟨ha, hR⟩ ?_ ?_
 ·simp -implicitDefEqProofs -dsimp
 ·clear hR
  rintro e ⟨he, hR⟩
  by_cases hlt : e < l.length
  ·obtain ⟨x, hx⟩ : ∃ x, l[e]? = some x := ⟨_, List.getElem?_eq_getElem hlt⟩
   have hx2 : l[e] = x := by rw [List.getElem?_eq_getElem hlt] at hx; exact Option.some.inj hx
   have d1 : (e : Int) < l.length := by omega
   have d3 : wrK .i64 ((e : Int) + 1) = e + 1 := wrap64_id _ (by omega)
   have hB := @lBlank x
   cases hb : isBl x with
   | true =>
    rw [skipP_step hx hb] at hR
    have hb := (isBl_iff x).1 hb
    rcases hb with hb | hb | hb | hb
    all_goals
     rw [hb] at hB
     simp at hB
     simp -implicitDefEqProofs -dsimp [-head_L, -endOk, d1, hlt, hx2, hb]
     refine wpcall_d hB ?_; simp -implicitDefEqProofs -dsimp [-head_L, -endOk, d3]
     refine ⟨e + 1, ⟨by omega, hR⟩, by omega, ?_⟩
     simp -implicitDefEqProofs -dsimp
   | false =>
    rw [skipP_end fun y hy => by rw [hx] at hy; cases hy; exact hb] at hR
    have hn : ¬ (x.toNat = 9 ∨ x.toNat = 10 ∨ x.toNat = 13 ∨ x.toNat = 32) := fun h => Bool.eq_false_iff.1 hb ((isBl_iff x).2 h)
    rw [if_neg (by omega), if_neg (by omega), if_neg (by omega), if_neg (by omega)] at hB
    simp -implicitDefEqProofs -dsimp [-head_L, d1, hlt, hx2]
    refine wpcall_d hB ?_; simp -implicitDefEqProofs -dsimp [-head_L]
    omega
  ·have d1 : ¬ (e : Int) < l.length := by omega
   rw [skipP_end fun y hy => by rw [List.getElem?_eq_none (by omega)] at hy; cases hy] at hR
   simp -implicitDefEqProofs -dsimp [-head_L, d1, hlt]
   refine WC_nr [I 0] (by simp -implicitDefEqProofs -dsimp) ?_; simp -implicitDefEqProofs -dsimp [-head_L]
   omega
theorem s10Skip {l : List UInt8} {a : Nat} (hl : l.length ≤ 1099511627776) (ha : a ≤ l.length) : Fn Tryz.prog 87 [T l, I a] [.un, .un] [I (skipP l a)] := by
 generalize hR : skipP l a = R
 have c1 : ¬ (a : Int) < 0 := by omega
 refine Fn_of Tryz.func87 rfl rfl (by simp -implicitDefEqProofs -dsimp) rfl ?_; simp only [Tryz.f87]
 simp -implicitDefEqProofs -dsimp [c1]
 refine WL_loop (fun e : Nat => [(0, T l), (1, I e), (4, I 0)]) (fun e => l.length - e) (fun e => e ≤ l.length ∧ skipP l e = R) a ⟨ha, hR⟩ ?_ ?_
 ·simp -implicitDefEqProofs -dsimp
 ·clear hR
  rintro e ⟨he, hR⟩
  by_cases hlt : e < l.length
  ·obtain ⟨x, hx⟩ : ∃ x, l[e]? = some x := ⟨_, List.getElem?_eq_getElem hlt⟩
   have hx2 : l[e] = x := by rw [List.getElem?_eq_getElem hlt] at hx; exact Option.some.inj hx
   have d1 : (e : Int) < l.length := by omega
   have d3 : wrK .i64 ((e : Int) + 1) = e + 1 := wrap64_id _ (by omega)
   cases hb : isBl x with
   | true =>
    rw [skipP_step hx hb] at hR
    have hb := (isBl_iff x).1 hb
    rcases hb with hb | hb | hb | hb
    all_goals
     simp -implicitDefEqProofs -dsimp [-head_L, -endOk, d1, hlt, hx2, hb, d3]
     refine ⟨e + 1, ⟨by omega, hR⟩, by omega, ?_⟩
     simp -implicitDefEqProofs -dsimp
   | false =>
    rw [skipP_end fun y hy => by rw [hx] at hy; cases hy; exact hb] at hR
    have hn : ¬ (x.toNat = 9 ∨ x.toNat = 10 ∨ x.toNat = 13 ∨ x.toNat = 32) := fun h => Bool.eq_false_iff.1 hb ((isBl_iff x).2 h)
    have n1 : ¬ (x.toNat : Int) = 9 := by omega
    have n2 : ¬ (x.toNat : Int) = 10 := by omega
    have n3 : ¬ (x.toNat : Int) = 13 := by omega
    have n4 : ¬ (x.toNat : Int) = 32 := by omega
    simp -implicitDefEqProofs -dsimp [-head_L, d1, hlt, hx2, n1, n2, n3, n4]
    omega
  ·have d1 : ¬ (e : Int) < l.length := by omega
   rw [skipP_end fun y hy => by rw [List.getElem?_eq_none (by omega)] at hy; cases hy] at hR
   simp -implicitDefEqProofs -dsimp [-head_L, d1, hlt]
   omega
theorem isSgF : ∀ i : Fin 256, decide (0 ≤ Lib.indexByte [123, 125, 91, 93, 58, 44] (UInt8.ofNat i.val)) = isSg i.val := by decide
theorem iSignOk {x : UInt8} : Fn Tryz.prog 112 [T [x]] [.un] [B (isSg x.toNat)] := by
 have h := lContains (s := ⟨#[123, 125, 91, 93, 58, 44]⟩) (c := x)
 have h2 := isSgF ⟨x.toNat, x.toNat_lt⟩
 simp only [UInt8.ofNat_toNat] at h2
 rw [show decide (0 ≤ Lib.indexByte (ByteArray.mk #[123, 125, 91, 93, 58, 44]).data.toList x) = isSg x.toNat from h2] at h
 refine Fn_of Tryz.func112 rfl rfl (by simp -implicitDefEqProofs -dsimp) rfl ?_; simp only [Tryz.f112]
 simp -implicitDefEqProofs -dsimp; repeat' (first | with_reducible intro _ | with_reducible apply And.intro | (refine chkOk ?_; kernel_rfl) | (refine wpcall_d (h) ?_; simp -implicitDefEqProofs -dsimp))
theorem s10SignOk {x : UInt8} : Fn Tryz.prog 88 [T [x]] [.un] [B (isSg x.toNat)] := by
 have h : isSg x.toNat = (decide (x = 123) || decide (x = 125) || decide (x = 91) || decide (x = 93) || decide (x = 58) || decide (x = 44)) := by
  rw [Bool.eq_iff_iff]; simp -implicitDefEqProofs -dsimp [isSg, ← UInt8.toNat_inj]
 rw [h]
 refine Fn_of Tryz.func88 rfl rfl (by simp -implicitDefEqProofs -dsimp) rfl ?_; simp only [Tryz.f88]
 simp -implicitDefEqProofs -dsimp
abbrev tkV (t : Tok) : V := .ag [I t.k, T t.s, I t.n, I t.x]
def tkR : Except Int (Tok × Nat) → Tok × Int × Int
 | .ok p => (p.1, p.2, 0)
 | .error c => (⟨0, [], 0, 0⟩, 0, c)
@[simp] theorem empty_T : ByteArray.empty = ⟨[].toArray⟩ := rfl
theorem starts_no {l w : List UInt8} {a : Nat} (hw : 0 < w.length) (h : l.length < a + w.length) : startsAt l a w = false := by
 rw [Bool.eq_false_iff]; intro h2
 unfold startsAt at h2
 rw [List.isPrefixOf_iff_prefix] at h2
 have := h2.length_le
 rw [List.length_drop] at this; omega
theorem starts_eq {l w : List UInt8} {a : Nat} (h : a + w.length ≤ l.length) : startsAt l a w = decide ((l.take (a + w.length)).drop a = w) := by
 rw [Bool.eq_iff_iff]
 unfold startsAt
 rw [List.isPrefixOf_iff_prefix, List.prefix_iff_eq_take, List.drop_take, decide_eq_true_eq, show a + w.length - a = w.length by omega]
 exact eq_comm
abbrev wNull : List UInt8 := [110, 117, 108, 108]
abbrev wTrue : List UInt8 := [116, 114, 117, 101]
abbrev wFalse : List UInt8 := [102, 97, 108, 115, 101]
def wK : Nat → List UInt8
 | 0 => wNull
 | 1 => wTrue
 | _ => wFalse
theorem wordP_k {l : List UInt8} {a : Nat} {k : Nat} (hk : k < 3) (h : ∀ j, j < k → startsAt l a (wK j) = false) (hs : startsAt l a (wK k) = true) : wordP l a = .ok (⟨4, wK k, 0, 0⟩, a + (wK k).length) := by
 unfold wordP
 have g0 : 0 < k → startsAt l a [110, 117, 108, 108] = false := fun hk => h 0 hk
 have g1 : 1 < k → startsAt l a [116, 114, 117, 101] = false := fun hk => h 1 hk
 rcases k with _ | _ | _ | k
 ·have e : startsAt l a [110, 117, 108, 108] = true := hs
  rw [if_pos e]; rfl
 ·have e : startsAt l a [116, 114, 117, 101] = true := hs
  rw [if_neg (by rw [g0 (by omega)]; decide), if_pos e]; rfl
 ·have e : startsAt l a [102, 97, 108, 115, 101] = true := hs
  rw [if_neg (by rw [g0 (by omega)]; decide), if_neg (by rw [g1 (by omega)]; decide), if_pos e]; rfl
 ·omega
theorem wordP_no {l : List UInt8} {a : Nat} (h : ∀ j, j < 3 → startsAt l a (wK j) = false) : wordP l a = .error 1 := by
 unfold wordP
 rw [if_neg (by have := h 0 (by omega); simpa [wK] using this), if_neg (by have := h 1 (by omega); simpa [wK] using this), if_neg (by have := h 2 (by omega); simpa [wK] using this)]
abbrev zTk : V := .blk [I 0, T [], I 0, I 0]
theorem s10Word {l : List UInt8} {a : Nat} (hl : l.length ≤ 1099511627776) (ha : a ≤ l.length) : Fn Tryz.prog 91 [T l, I a] [.un, .un] [tkV (tkR (wordP l a)).1, I (tkR (wordP l a)).2.1, I (tkR (wordP l a)).2.2] := by
 generalize hR : wordP l a = R
 refine Fn_of Tryz.func91 rfl rfl (by simp -implicitDefEqProofs -dsimp) rfl ?_; simp only [Tryz.f91]
 simp -implicitDefEqProofs -dsimp
 refine WL_loop (fun k : Nat => [(0, T l), (1, I a), (4, zTk), (5, I 0), (6, I 0), (9, .row true 9 [T wNull, T wTrue, T wFalse]), (10, I 3), (11, I k)]) (fun k => 3 - k) (fun k => k ≤ 3 ∧ ∀ j, j < k → startsAt l a (wK j) = false) 0 ⟨by omega, fun j h => by omega⟩ ?_ ?_
 ·simp -implicitDefEqProofs -dsimp
 ·rintro k ⟨hk, hno⟩
  have e4 : wrK .i64 ((l.length : Int) - 4) = l.length - 4 := wrap64_id _ (by omega)
  have e5 : wrK .i64 ((l.length : Int) - 5) = l.length - 5 := wrap64_id _ (by omega)
  by_cases hk3 : k = 3
  ·subst hk3
   rw [wordP_no hno] at hR; subst hR
   simp -implicitDefEqProofs -dsimp [-head_L, tkR]
  ·have hnext : startsAt l a (wK k) = false → ∀ j, j < k + 1 → startsAt l a (wK j) = false := fun h j hj => by
    rcases Nat.lt_or_ge j k with h1 | h1
    ·exact hno j h1
    ·obtain rfl : j = k := by omega
     exact h
   have hk2 : k = 0 ∨ k = 1 ∨ k = 2 := by omega
   by_cases hfit : a + (wK k).length ≤ l.length
   ·have hse := starts_eq hfit
    cases hs : startsAt l a (wK k) with
    | true =>
     rw [wordP_k (by omega) hno hs] at hR; subst hR
     rw [hs] at hse
     have hse := of_decide_eq_true hse.symm
     clear hs hnext hno
     rcases hk2 with rfl | rfl | rfl
     all_goals
      simp -implicitDefEqProofs -dsimp [wK] at hse hfit
      have f1 : wrK .i64 ((a : Int) + 4) = a + 4 := wrap64_id _ (by omega)
      have f2 : wrK .i64 ((a : Int) + 5) = a + 5 := wrap64_id _ (by omega)
      have f3 : ((a : Int) + 4).toNat = a + 4 := by omega
      have f4 : ((a : Int) + 5).toNat = a + 5 := by omega
      simp -implicitDefEqProofs -dsimp [-head_L, tkR, wK, e4, e5, f1, f2, f3, f4, hse]
      try omega
    | false =>
     rw [hs] at hse
     have hse := of_decide_eq_false hse.symm
     have hnx := hnext hs
     clear hs hnext hno
     rcases hk2 with rfl | rfl | rfl
     all_goals
      simp -implicitDefEqProofs -dsimp [wK] at hse hfit
      have f1 : wrK .i64 ((a : Int) + 4) = a + 4 := wrap64_id _ (by omega)
      have f2 : wrK .i64 ((a : Int) + 5) = a + 5 := wrap64_id _ (by omega)
      have f3 : ((a : Int) + 4).toNat = a + 4 := by omega
      have f4 : ((a : Int) + 5).toNat = a + 5 := by omega
      have f5 : (a : Int) ≤ a + 4 := by omega
      have f6 : (a : Int) ≤ a + 5 := by omega
      have f7 : ¬ l.length < a + 4 := by omega
      have f8 : (a : Int) + 4 ≤ l.length := by omega
     ·have f9 : (a : Int) ≤ l.length - 4 := by omega
      simp -implicitDefEqProofs -dsimp [-head_L, -endOk, e4, e5, f1, f2, f3, f4, f5, f6, f8, f9, hse]
      refine ⟨1, ⟨by omega, hnx⟩, by omega, ?_⟩
      simp -implicitDefEqProofs -dsimp
     ·have f9 : (a : Int) ≤ l.length - 4 := by omega
      simp -implicitDefEqProofs -dsimp [-head_L, -endOk, e4, e5, f1, f2, f3, f4, f5, f6, f8, f9, hse]
      refine ⟨2, ⟨by omega, hnx⟩, by omega, ?_⟩
      simp -implicitDefEqProofs -dsimp
     ·have f9 : (a : Int) ≤ l.length - 5 := by omega
      have f10 : (a : Int) + 5 ≤ l.length := by omega
      simp -implicitDefEqProofs -dsimp [-head_L, -endOk, e4, e5, f1, f2, f3, f4, f5, f6, f8, f9, f10, hse]
      refine ⟨3, ⟨by omega, hnx⟩, by omega, ?_⟩
      simp -implicitDefEqProofs -dsimp
   ·have hs := starts_no (by rcases hk2 with rfl | rfl | rfl <;> decide) (Nat.lt_of_not_le hfit)
    have hnx := hnext hs
    clear hs hnext hno
    rcases hk2 with rfl | rfl | rfl
    all_goals simp -implicitDefEqProofs -dsimp [wK] at hfit
    ·have f9 : ¬ (a : Int) ≤ l.length - 4 := by omega
     simp -implicitDefEqProofs -dsimp [-head_L, -endOk, e4, e5, f9]
     refine ⟨1, ⟨by omega, hnx⟩, by omega, ?_⟩
     simp -implicitDefEqProofs -dsimp
    ·have f9 : ¬ (a : Int) ≤ l.length - 4 := by omega
     simp -implicitDefEqProofs -dsimp [-head_L, -endOk, e4, e5, f9]
     refine ⟨2, ⟨by omega, hnx⟩, by omega, ?_⟩
     simp -implicitDefEqProofs -dsimp
    ·have f9 : ¬ (a : Int) ≤ l.length - 5 := by omega
     simp -implicitDefEqProofs -dsimp [-head_L, -endOk, e4, e5, f9]
     refine ⟨3, ⟨by omega, hnx⟩, by omega, ?_⟩
     simp -implicitDefEqProofs -dsimp
end Go.Proofs.YtlfblkekbcfjpaaGreatDoor
