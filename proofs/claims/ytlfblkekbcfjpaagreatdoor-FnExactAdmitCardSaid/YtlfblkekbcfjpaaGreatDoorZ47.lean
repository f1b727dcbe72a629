/- Part of a proof: contracts and plain laws. -/
import Derived.Test.YtlfblkekbcfjpaaGreatDoorZ41
import Derived.Test.YtlfblkekbcfjpaaGreatDoorZ46
set_option linter.unusedVariables false
set_option linter.unusedSimpArgs false
namespace Go.Proofs.YtlfblkekbcfjpaaGreatDoor
open Go
set_option maxRecDepth 100000
set_option maxHeartbeats 4000000
def CntR (rd : Int → Except Int (GVal × Int)) : Prop := ∀ a v e, rd a = .ok (v, e) → a + (cntG v : Int) ≤ e
theorem manyP_cnt {rd : Int → Except Int (GVal × Int)} (h : CntR rd) : ∀ {n : Nat} {e e' : Int} {xs : List GVal}, manyP rd n e = .ok (xs, e') → e + (cntL xs : Int) ≤ e'
 | 0, e, e', xs, hm => by cases hm; simp +zeta [cntL]
 | n + 1, e, e', xs, hm => by
  unfold manyP at hm
  cases h1 : manyP rd n e with
  | error c => rw [h1] at hm; cases hm
  | ok p =>
   obtain ⟨ys, e1⟩ := p
   have h2 := manyP_cnt h h1
   rw [h1] at hm; simp only at hm
   cases h3 : rd e1 with
   | error c => rw [h3] at hm; cases hm
   | ok q =>
    obtain ⟨x, e2⟩ := q
    have h4 := h _ _ _ h3
    rw [h3] at hm; cases hm
    rw [cntL_app]; simp +zeta [cntL]; omega
theorem openF_cnt {b : List UInt8} {rd : Int → Except Int (GVal × Int)} (h : CntR rd) {p : Bool} : ∀ (f : Nat) (o : Bool) (e : Int) {e' : Int} {xs : List GVal}, openF b rd p f o e = .ok (xs, e') → e + (cntL xs : Int) ≤ e'
 | 0, _, _, _, _, hm => by cases hm
 | f + 1, o, e, e', xs, hm => by
  unfold openF at hm
  split at hm
  ·split at hm
   ·cases hm
   ·cases hm; simp +zeta [cntL]; omega
  ·cases h3 : rd e with
   | error c => rw [h3] at hm; cases hm
   | ok q =>
    obtain ⟨x, e1⟩ := q
    have h4 := h _ _ _ h3
    rw [h3] at hm; simp only at hm
    cases h5 : openF b rd p f (!o) e1 with
    | error c => rw [h5] at hm; cases hm
    | ok r =>
     obtain ⟨ys, e2⟩ := r
     have h6 := openF_cnt h f (!o) e1 h5
     rw [h5] at hm; cases hm
     simp +zeta [cntL]; omega
theorem cnt_leaf {k n x : Int} {s : ByteArray} : cntG ⟨k, n, x, s, []⟩ = 1 := rfl
theorem tight_cnt {b : List UInt8} : ∀ d, CntR (tightP b d)
 | 0, a, v, e, h => by cases h
 | d + 1, a, v, e', h => by
  have hadv := tightP_adv (d + 1) a v e' h
  unfold tightP at h
  split at h
  ·cases h
  ·rename_i hc
   rcases hh : getHeadP b a with ⟨⟨m, n, w⟩, e, c⟩
   rw [hh] at h hc; simp only [ne_eq, Decidable.not_not] at h hc; subst hc
   have ho := head_ok hh
   have ih := tight_cnt (b := b) d
   have hk : ∀ (k n : Int) (o : Except Int (List GVal × Int)), (∀ xs e2, o = .ok (xs, e2) → e + (cntL xs : Int) ≤ e2) → kindE k n o = .ok (v, e') → a + (cntG v : Int) ≤ e' := fun k n o ho2 hx => by
    rcases o with c | ⟨xs, e2⟩
    ·cases hx
    ·have := ho2 xs e2 rfl
     cases hx
     rw [cntG_eq]; simp only; omega
   have ht : ∀ (o : Except Int (List UInt8 × Int)), textE m o = .ok (v, e') → a + (cntG v : Int) ≤ e' := fun o hx => by
    rcases o with c | ⟨xs, e2⟩
    ·cases hx
    ·cases hx; rw [cnt_leaf]; omega
   unfold tightB at h
   repeat' split at h
   all_goals first
    | (cases h; done)
    | exact ht _ h
    | exact hk _ _ _ (fun xs e2 hx => manyP_cnt ih hx) h
    | exact hk _ _ _ (fun xs e2 hx => openF_cnt ih _ _ _ hx) h
    | (cases h; rw [cnt_leaf]; omega)
    | (have hs : cntG v = 1 := (by unfold simpleP at h; (repeat' split at h); all_goals first | (cases h; rfl) | cases h); rw [hs]; omega)
theorem pack_cnt {b : List UInt8} : ∀ d, CntR (packP b d)
 | 0, a, v, e, h => by unfold packP at h; cases h
 | d + 1, a, v, e', h => by
  have hadv := packP_adv h
  unfold packP at h
  rcases hm : getMarkP b a with ⟨⟨k, n⟩, e, c⟩
  rw [hm] at h; simp only at h
  have ih := pack_cnt (b := b) d
  by_cases hc : c = 0
  ·subst hc
   have hK := getMarkP_bounds hm
   rw [if_neg (by simp -implicitDefEqProofs -dsimp)] at h
   split at h
   ·cases h; rw [cnt_leaf]; omega
   ·split at h
    ·split at h
     ·cases h; rw [cnt_leaf]; omega
     ·cases h
    ·split at h
     ·generalize ((if k = 10 then 2 else 1) * n.toNat) = N at h
      cases hp : manyP (packP b d) N e with
      | error c => rw [hp] at h; cases h
      | ok q =>
       obtain ⟨xs, e2⟩ := q
       have := manyP_cnt ih hp
       rw [hp] at h; cases h
       rw [cntG_eq]; simp only; omega
     ·cases h; rw [cnt_leaf]; omega
  ·rw [if_pos hc] at h; cases h
def readP (w : Int) (b : List UInt8) (d : Nat) : Except Int GVal :=
 if w = 1 then readTextP b d else if w = 2 then readTightP b d else if w = 3 then readPackP b d else if w = 4 then readPlainP b d else .error 1
theorem readP_cnt {w : Int} {b : List UInt8} {d : Nat} {v : GVal} (h : readP w b d = .ok v) : cntG v ≤ b.length := by
 unfold readP at h
 split at h
 ·exact (readTextP_good h).2
 ·split at h
  ·unfold readTightP at h
   rcases hs : tightP b d 0 with c | ⟨v', e⟩
   ·rw [hs] at h; cases h
   ·have h1 := tight_cnt d _ _ _ hs
    have h2 := tightP_adv _ _ _ _ hs
    rw [hs] at h; simp only at h
    split at h
    ·cases h; omega
    ·cases h
  ·split at h
   ·unfold readPackP at h
    rcases hs : packP b d 0 with c | ⟨v', e⟩
    ·rw [hs] at h; cases h
    ·have h1 := pack_cnt d _ _ _ hs
     have h2 := packP_adv hs
     rw [hs] at h; simp only at h
     split at h
     ·cases h; omega
     ·cases h
   ·split at h
    ·unfold readPlainP at h
     rcases ht : readTextP b d with c | v'
     ·rw [ht] at h; cases h
     ·have h1 := (readTextP_good ht).2
      rw [ht] at h; simp only at h
      rcases hh : halvG v' with _ | u
      ·rw [hh] at h; cases h
      ·have h2 := cnt_halv v' u hh
       have h3 := cnt_once u
       rw [hh] at h; cases h; omega
    ·cases h
theorem readP_err {w : Int} {b : List UInt8} {d : Nat} {c : Int} (h : readP w b d = .error c) : ¬ c = 0 := by
 unfold readP at h
 split at h
 ·exact readTextP_err h
 ·split at h
  ·unfold readTightP at h
   rcases hs : tightP b d 0 with c1 | ⟨v', e⟩
   ·rw [hs] at h; cases h; exact tightP_err _ _ _ hs
   ·rw [hs] at h; simp only at h
    split at h
    ·cases h
    ·cases h; decide
  ·split at h
   ·unfold readPackP at h
    rcases hs : packP b d 0 with c1 | ⟨v', e⟩
    ·rw [hs] at h; cases h; exact packP_err hs
    ·rw [hs] at h; simp only at h
     split at h
     ·cases h
     ·cases h; decide
   ·split at h
    ·unfold readPlainP at h
     rcases ht : readTextP b d with c1 | v'
     ·rw [ht] at h; cases h; exact readTextP_err ht
     ·rw [ht] at h; simp only at h
      rcases hh : halvG v' with _ | u
      ·rw [hh] at h; cases h; decide
      ·rw [hh] at h; cases h
    ·cases h; decide
def admitP (w : Int) (b : List UInt8) (d n c : Int) : Except Int GVal :=
 if ¬ (limOk d n c = true ∧ 1 ≤ w ∧ w ≤ 4) then .error 1
 else if n < b.length then .error 2
 else match readP w b d.toNat with
  | .error e => .error e
  | .ok v => if c < cntG v then .error 2 else .ok v
section
variable {w : Int} {b : List UInt8} {d : Nat}
theorem iRead (hb : b.length ≤ 1073741824) (hd : d ≤ 10000) (hw : 1 ≤ w ∧ w ≤ 4) : Fn Tryz.prog 26 [I w, Y b, I d] [.un, .un, .un] [vF 27 (exG (readP w b d)), I (codeE (readP w b d))] := by
 have hz : ∀ x : UInt8, (x.toNat : Int) < 256 := fun x => by have := x.toNat_lt; omega
 have hc : w = 1 ∨ w = 2 ∨ w = 3 ∨ w = 4 := by omega
 rcases hc with rfl | rfl | rfl | rfl
 ·have h := iReadText hb (show d ≤ 1000000 by omega)
  rw [show readP 1 b d = readTextP b d from rfl]
  simp only [vF] at h ⊢
  refine Fn_of Tryz.func26 rfl rfl (by simp -implicitDefEqProofs -dsimp) rfl ?_; simp only [Tryz.f26]
  simp -implicitDefEqProofs -dsimp [hz]; repeat' (first | with_reducible intro _ | with_reducible apply And.intro | (refine chkOk ?_; kernel_rfl) | (refine wpcall_d (h) ?_; simp -implicitDefEqProofs -dsimp [hz]))
 ·have h := iReadTight hb hd
  rw [show readP 2 b d = readTightP b d from rfl]
  simp only [vF] at h ⊢
  refine Fn_of Tryz.func26 rfl rfl (by simp -implicitDefEqProofs -dsimp) rfl ?_; simp only [Tryz.f26]
  simp -implicitDefEqProofs -dsimp; repeat' (first | with_reducible intro _ | with_reducible apply And.intro | (refine chkOk ?_; kernel_rfl) | (refine wpcall_d (h) ?_; simp -implicitDefEqProofs -dsimp))
 ·have h := iReadPacked hb (show d ≤ 1000000 by omega)
  rw [show readP 3 b d = readPackP b d from rfl]
  simp only [vF] at h ⊢
  refine Fn_of Tryz.func26 rfl rfl (by simp -implicitDefEqProofs -dsimp) rfl ?_; simp only [Tryz.f26]
  simp -implicitDefEqProofs -dsimp; repeat' (first | with_reducible intro _ | with_reducible apply And.intro | (refine chkOk ?_; kernel_rfl) | (refine wpcall_d (h) ?_; simp -implicitDefEqProofs -dsimp))
 ·have h := iReadPlain hb (show d ≤ 1000000 by omega)
  rw [show readP 4 b d = readPlainP b d from rfl]
  simp only [vF] at h ⊢
  refine Fn_of Tryz.func26 rfl rfl (by simp -implicitDefEqProofs -dsimp) rfl ?_; simp only [Tryz.f26]
  simp -implicitDefEqProofs -dsimp [hz]; repeat' (first | with_reducible intro _ | with_reducible apply And.intro | (refine chkOk ?_; kernel_rfl) | (refine wpcall_d (h) ?_; simp -implicitDefEqProofs -dsimp [hz]))
theorem sRead (hb : b.length ≤ 1073741824) (hd : d ≤ 10000) (hw : 1 ≤ w ∧ w ≤ 4) : Fn Tryz.prog 22 [I w, Y b, I d] [.un, .un, .un] [vV (exG (readP w b d)), I (codeE (readP w b d))] := by
 have hz : ∀ x : UInt8, (x.toNat : Int) < 256 := fun x => by have := x.toNat_lt; omega
 have hc : w = 1 ∨ w = 2 ∨ w = 3 ∨ w = 4 := by omega
 rcases hc with rfl | rfl | rfl | rfl
 ·have h := sReadText hb (show d ≤ 1000000 by omega)
  rw [show readP 1 b d = readTextP b d from rfl]
  simp only [vF, vV_eq] at h ⊢
  refine Fn_of Tryz.func22 rfl rfl (by simp -implicitDefEqProofs -dsimp) rfl ?_; simp only [Tryz.f22]
  simp -implicitDefEqProofs -dsimp [hz]; repeat' (first | with_reducible intro _ | with_reducible apply And.intro | (refine chkOk ?_; kernel_rfl) | (refine wpcall_d (h) ?_; simp -implicitDefEqProofs -dsimp [hz]))
 ·have h := sReadTight hb hd
  rw [show readP 2 b d = readTightP b d from rfl]
  simp only [vF, vV_eq] at h ⊢
  refine Fn_of Tryz.func22 rfl rfl (by simp -implicitDefEqProofs -dsimp) rfl ?_; simp only [Tryz.f22]
  simp -implicitDefEqProofs -dsimp; repeat' (first | with_reducible intro _ | with_reducible apply And.intro | (refine chkOk ?_; kernel_rfl) | (refine wpcall_d (h) ?_; simp -implicitDefEqProofs -dsimp))
 ·have h := sReadPacked hb (show d ≤ 1000000 by omega)
  rw [show readP 3 b d = readPackP b d from rfl]
  simp only [vF, vV_eq] at h ⊢
  refine Fn_of Tryz.func22 rfl rfl (by simp -implicitDefEqProofs -dsimp) rfl ?_; simp only [Tryz.f22]
  simp -implicitDefEqProofs -dsimp; repeat' (first | with_reducible intro _ | with_reducible apply And.intro | (refine chkOk ?_; kernel_rfl) | (refine wpcall_d (h) ?_; simp -implicitDefEqProofs -dsimp))
 ·have h := sReadPlain hb (show d ≤ 1000000 by omega)
  rw [show readP 4 b d = readPlainP b d from rfl]
  simp only [vV_eq] at h ⊢
  refine Fn_of Tryz.func22 rfl rfl (by simp -implicitDefEqProofs -dsimp) rfl ?_; simp only [Tryz.f22]
  simp -implicitDefEqProofs -dsimp [hz]; repeat' (first | with_reducible intro _ | with_reducible apply And.intro | (refine chkOk ?_; kernel_rfl) | (refine wpcall_d (h) ?_; simp -implicitDefEqProofs -dsimp [hz]))
end
end Go.Proofs.YtlfblkekbcfjpaaGreatDoor
namespace Go.Proofs.YtlfblkekbcfjpaaGreatDoor
open Go
set_option maxRecDepth 100000
set_option maxHeartbeats 4000000
theorem limOk_b {d n c : Int} (h : limOk d n c = true) : 1 ≤ d ∧ d ≤ 20 := by
 unfold limOk at h; simp at h; omega
section
variable {w d n c : Int} {b : List UInt8}
theorem iAdmit (hb : b.length ≤ 1073741824) : Fn Tryz.prog 8 [I w, Y b, .ag [I d, I n, I c]] [.un, .un, .un] [vF 27 (exG (admitP w b d n c)), I (codeE (admitP w b d n c))] := by
 have hL := iLimitsOk (d := d) (b := n) (c := c)
 have hW := iWayOk (n := w)
 unfold admitP
 cases hl : limOk d n c with
 | false =>
  rw [hl] at hL
  rw [if_pos (by simp -implicitDefEqProofs -dsimp)]
  refine Fn_of Tryz.func8 rfl rfl (by simp -implicitDefEqProofs -dsimp) rfl ?_; simp only [Tryz.f8]
  simp -implicitDefEqProofs -dsimp
  refine wpcall_d hL ?_; simp -implicitDefEqProofs -dsimp
  refine WC_nr [B false] (by simp -implicitDefEqProofs -dsimp) ?_; simp -implicitDefEqProofs -dsimp [exG, codeE, vF, zeroG]
 | true =>
  rw [hl] at hL
  by_cases hw : 1 ≤ w ∧ w ≤ 4
  ·rw [if_neg (by simp -implicitDefEqProofs -dsimp; omega)]
   rw [decide_eq_true hw.1, decide_eq_true hw.2] at hW
   by_cases hn : n < b.length
   ·rw [if_pos hn]
    refine Fn_of Tryz.func8 rfl rfl (by simp -implicitDefEqProofs -dsimp) rfl ?_; simp only [Tryz.f8]
    simp -implicitDefEqProofs -dsimp
    refine wpcall_d hL ?_; simp -implicitDefEqProofs -dsimp
    refine wpcall_d hW ?_; simp -implicitDefEqProofs -dsimp [hn, exG, codeE, vF, zeroG]
   ·rw [if_neg hn]
    obtain ⟨hd1, hd2⟩ := limOk_b hl
    obtain ⟨k, rfl⟩ : ∃ k : Nat, d = k := ⟨d.toNat, by omega⟩
    have hR := iRead (w := w) (b := b) (d := k) hb (by omega) hw
    rw [Int.toNat_natCast]
    rcases hr : readP w b k with e | v
    ·have he := readP_err hr
     rw [hr] at hR; simp only [exG, codeE, vF] at hR
     refine Fn_of Tryz.func8 rfl rfl (by simp -implicitDefEqProofs -dsimp) rfl ?_; simp only [Tryz.f8]
     simp -implicitDefEqProofs -dsimp
     refine wpcall_d hL ?_; simp -implicitDefEqProofs -dsimp
     refine wpcall_d hW ?_; simp -implicitDefEqProofs -dsimp [hn]
     refine wpcall_d hR ?_; simp -implicitDefEqProofs -dsimp [he, exG, codeE, vF, zeroG]
    ·have hcn := readP_cnt hr
     have hC := iCountOf v (by omega)
     simp only [vV_eq] at hC
     rw [hr] at hR; simp only [exG, codeE, vF] at hR
     by_cases hcc : c < cntG v
     ·simp only [if_pos hcc]
      refine Fn_of Tryz.func8 rfl rfl (by simp -implicitDefEqProofs -dsimp) rfl ?_; simp only [Tryz.f8]
      simp -implicitDefEqProofs -dsimp
      refine wpcall_d hL ?_; simp -implicitDefEqProofs -dsimp
      refine wpcall_d hW ?_; simp -implicitDefEqProofs -dsimp [hn]
      refine wpcall_d hR ?_; simp -implicitDefEqProofs -dsimp
      refine wpcall_q hC ?_; simp -implicitDefEqProofs -dsimp [hcc, exG, codeE, vF, zeroG]
      all_goals (refine chkOk ?_; kernel_rfl)
     ·simp only [if_neg hcc]
      refine Fn_of Tryz.func8 rfl rfl (by simp -implicitDefEqProofs -dsimp) rfl ?_; simp only [Tryz.f8]
      simp -implicitDefEqProofs -dsimp
      refine wpcall_d hL ?_; simp -implicitDefEqProofs -dsimp
      refine wpcall_d hW ?_; simp -implicitDefEqProofs -dsimp [hn]
      refine wpcall_d hR ?_; simp -implicitDefEqProofs -dsimp
      refine wpcall_q hC ?_; simp -implicitDefEqProofs -dsimp [hcc, exG, codeE, vF, zeroG]
      all_goals (refine chkOk ?_; kernel_rfl)
  ·rw [if_pos (by simp -implicitDefEqProofs -dsimp; omega)]
   rw [show (decide (1 ≤ w) && decide (w ≤ 4)) = false by simp -implicitDefEqProofs -dsimp; omega] at hW
   refine Fn_of Tryz.func8 rfl rfl (by simp -implicitDefEqProofs -dsimp) rfl ?_; simp only [Tryz.f8]
   simp -implicitDefEqProofs -dsimp
   refine wpcall_d hL ?_; simp -implicitDefEqProofs -dsimp
   refine wpcall_d hW ?_; simp -implicitDefEqProofs -dsimp [exG, codeE, vF, zeroG]
theorem sAdmit (hb : b.length ≤ 1073741824) : Fn Tryz.prog 5 [I w, Y b, .ag [I d, I n, I c]] [.un, .un, .un] [vV (exG (admitP w b d n c)), I (codeE (admitP w b d n c))] := by
 have hL := sLimitsOk (d := d) (b := n) (c := c)
 have hW := sWayOk (n := w)
 unfold admitP
 simp only [vV_eq]
 cases hl : limOk d n c with
 | false =>
  rw [hl] at hL
  rw [if_pos (by simp -implicitDefEqProofs -dsimp)]
  refine Fn_of Tryz.func5 rfl rfl (by simp -implicitDefEqProofs -dsimp) rfl ?_; simp only [Tryz.f5]
  simp -implicitDefEqProofs -dsimp
  refine wpcall_d hL ?_; simp -implicitDefEqProofs -dsimp
  refine WC_nr [B false] (by simp -implicitDefEqProofs -dsimp) ?_; simp -implicitDefEqProofs -dsimp [exG, codeE, zeroG]
 | true =>
  rw [hl] at hL
  by_cases hw : 1 ≤ w ∧ w ≤ 4
  ·rw [if_neg (by simp -implicitDefEqProofs -dsimp; omega)]
   rw [decide_eq_true hw.1, decide_eq_true hw.2] at hW
   by_cases hn : n < b.length
   ·rw [if_pos hn]
    refine Fn_of Tryz.func5 rfl rfl (by simp -implicitDefEqProofs -dsimp) rfl ?_; simp only [Tryz.f5]
    simp -implicitDefEqProofs -dsimp
    refine wpcall_d hL ?_; simp -implicitDefEqProofs -dsimp
    refine wpcall_d hW ?_; simp -implicitDefEqProofs -dsimp [hn, exG, codeE, zeroG]
   ·rw [if_neg hn]
    obtain ⟨hd1, hd2⟩ := limOk_b hl
    obtain ⟨k, rfl⟩ : ∃ k : Nat, d = k := ⟨d.toNat, by omega⟩
    have hR := sRead (w := w) (b := b) (d := k) hb (by omega) hw
    simp only [vV_eq] at hR
    rw [Int.toNat_natCast]
    rcases hr : readP w b k with e | v
    ·have he := readP_err hr
     rw [hr] at hR; simp only [exG, codeE] at hR
     refine Fn_of Tryz.func5 rfl rfl (by simp -implicitDefEqProofs -dsimp) rfl ?_; simp only [Tryz.f5]
     simp -implicitDefEqProofs -dsimp
     refine wpcall_d hL ?_; simp -implicitDefEqProofs -dsimp
     refine wpcall_d hW ?_; simp -implicitDefEqProofs -dsimp [hn]
     refine wpcall_d hR ?_; simp -implicitDefEqProofs -dsimp [he, exG, codeE, zeroG]
     all_goals (refine chkOk ?_; kernel_rfl)
    ·have hcn := readP_cnt hr
     have hC := sCountOf v (by omega)
     simp only [vV_eq] at hC
     rw [hr] at hR; simp only [exG, codeE] at hR
     by_cases hcc : c < cntG v
     ·simp only [if_pos hcc]
      refine Fn_of Tryz.func5 rfl rfl (by simp -implicitDefEqProofs -dsimp) rfl ?_; simp only [Tryz.f5]
      simp -implicitDefEqProofs -dsimp
      refine wpcall_d hL ?_; simp -implicitDefEqProofs -dsimp
      refine wpcall_d hW ?_; simp -implicitDefEqProofs -dsimp [hn]
      refine wpcall_d hR ?_; simp -implicitDefEqProofs -dsimp
      refine wpcall_q hC ?_; simp -implicitDefEqProofs -dsimp [hcc, exG, codeE, zeroG]
      all_goals (refine chkOk ?_; kernel_rfl)
     ·simp only [if_neg hcc]
      refine Fn_of Tryz.func5 rfl rfl (by simp -implicitDefEqProofs -dsimp) rfl ?_; simp only [Tryz.f5]
      simp -implicitDefEqProofs -dsimp
      refine wpcall_d hL ?_; simp -implicitDefEqProofs -dsimp
      refine wpcall_d hW ?_; simp -implicitDefEqProofs -dsimp [hn]
      refine wpcall_d hR ?_; simp -implicitDefEqProofs -dsimp
      refine wpcall_q hC ?_; simp -implicitDefEqProofs -dsimp [hcc, exG, codeE, zeroG]
      all_goals (refine chkOk ?_; kernel_rfl)
  ·rw [if_pos (by simp -implicitDefEqProofs -dsimp; omega)]
   rw [show (decide (1 ≤ w) && decide (w ≤ 4)) = false by simp -implicitDefEqProofs -dsimp; omega] at hW
   refine Fn_of Tryz.func5 rfl rfl (by simp -implicitDefEqProofs -dsimp) rfl ?_; simp only [Tryz.f5]
   simp -implicitDefEqProofs -dsimp
   refine wpcall_d hL ?_; simp -implicitDefEqProofs -dsimp
   refine wpcall_d hW ?_; simp -implicitDefEqProofs -dsimp [exG, codeE, zeroG]
end
end Go.Proofs.YtlfblkekbcfjpaaGreatDoor
