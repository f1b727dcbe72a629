/- Part of a proof: contracts and plain laws. -/
import Derived.Test.YtlfblkekbcfjpaaGreatDoorZ08
set_option linter.unusedVariables false
set_option linter.unusedSimpArgs false
namespace Go.Proofs.YtlfblkekbcfjpaaGreatDoor
open Go.RowKit
theorem ix_congr {α : Type} {n : Nat} {f g : Nat → List α} (h : ∀ i, i < n → f i = g i) : ix n f = ix n g := by
 unfold ix
 induction n with
 | zero => rfl
 | succ n ih => rw [List.range_succ, List.flatMap_append, List.flatMap_append, ih fun i hi => h i (by omega)]; simp -implicitDefEqProofs -dsimp [h n (by omega)]
section
variable {P : Program} {g : Prop} {σ τ : St} {K : List (Comp × V) → List Comp → Prop} {xs ys : List V}
theorem rdx_blk {i b o : Nat} (hi : i < ys.length) (h : xs.getD i .un = .pt b o) : Comp.b b ∈ rdx σ xs ys :=
 mem_ix.2 ⟨i, hi, List.mem_append_left _ (by rw [h]; simp -implicitDefEqProofs -dsimp)⟩
theorem xc_at (h : ∀ c ∈ rdx σ xs ys, τ c = σ c) {i : Nat} (hi : i < ys.length) : xc τ (xs.getD i .un) (ys.getD i .un) = xc σ (xs.getD i .un) (ys.getD i .un) := by
 unfold xc
 split
 ·rename_i b o zs hx hy
  rw [h _ (rdx_blk hi hx)]
 ·rfl
 ·rfl
theorem rdx_ref {i j p q : Nat} (hi : i < ys.length) (h : xij σ xs ys i j = .own p q) : Comp.r p q ∈ rdx σ xs ys := by
 refine mem_ix.2 ⟨i, hi, List.mem_append_right _ (List.mem_flatMap.2 ⟨.own p q, ?_, by simp -implicitDefEqProofs -dsimp [refC]⟩)⟩
 unfold xij at h
 have hj : j < (xc σ (xs.getD i .un) (ys.getD i .un)).length := by
  rcases Nat.lt_or_ge j (xc σ (xs.getD i .un) (ys.getD i .un)).length with h' | h'
  ·exact h'
  ·rw [getD_un _ h'] at h; cases h
 rw [← h]; exact getD_mem _ hj
theorem og_at (h : ∀ c ∈ rdx σ xs ys, τ c = σ c) : og τ xs ys = og σ xs ys := by
 unfold og
 exact ix_congr fun i hi => by rw [xc_at h hi]
theorem ln_at (h : ∀ c ∈ rdx σ xs ys, τ c = σ c) : ln τ xs ys = ln σ xs ys := by
 unfold ln
 refine ix_congr fun i hi => ix_congr fun j hj => ?_
 rw [xc_at h hi]
 unfold lnC
 split
 ·rename_i p q zs hx hy
  rw [h _ (rdx_ref (j := j) hi hx)]
 ·rfl
theorem rdx_at (h : ∀ c ∈ rdx σ xs ys, τ c = σ c) : rdx τ xs ys = rdx σ xs ys := by
 unfold rdx
 exact ix_congr fun i hi => by rw [xc_at h hi]
theorem ln_rdx : ∀ c ∈ ln σ xs ys, c ∈ rdx σ xs ys := fun c hc => by
 unfold ln at hc
 obtain ⟨i, hi, hc⟩ := mem_ix.1 hc
 obtain ⟨j, hj, hc⟩ := mem_ix.1 hc
 unfold lnC at hc
 split at hc
 ·rename_i p q zs hx hy
  split at hc
  ·simp only [List.mem_singleton] at hc
   subst hc
   exact rdx_ref (j := j) hi hx
  ·cases hc
 ·cases hc
theorem passC_at {x y : V} (h : ∀ c ∈ refC x, τ c = σ c) (hp : passC P σ x y) : passC P τ x y := by
 unfold passC at hp ⊢
 split at hp
 ·split at hp
  ·rw [h _ (by simp -implicitDefEqProofs -dsimp [refC])]; exact hp
  ·exact hp
  ·exact hp.elim
 ·split at hp
  ·rw [h _ (by simp -implicitDefEqProofs -dsimp [refC])]; exact hp
  ·exact hp
  ·exact hp
  ·exact hp
  ·exact hp.elim
 ·exact hp
 ·exact hp
theorem passCs_at : ∀ {xs ys : List V}, (∀ c ∈ xs.flatMap refC, τ c = σ c) → passCs P σ xs ys → passCs P τ xs ys
 | [], [], _, _ => trivial
 | [], _ :: _, _, h => h.elim
 | _ :: _, [], _, h => h.elim
 | x :: xs, y :: ys, hr, h => ⟨passC_at (fun c hc => hr c (by simp -implicitDefEqProofs -dsimp [hc])) h.1, passCs_at (fun c hc => hr c (by simp only [List.flatMap_cons, List.mem_append]; exact .inr hc)) h.2⟩
theorem pass_at {x y : V} (hb : ∀ b o zs, x = .pt b o → y = .blk zs → τ (.b b) = σ (.b b)) (h : ∀ c ∈ (xc σ x y).flatMap refC, τ c = σ c) (hp : pass P σ x y) : pass P τ x y := by
 by_cases h1 : ∃ zs, y = .blk zs
 ·obtain ⟨zs, rfl⟩ := h1
  obtain ⟨b, xs, rfl, h2, h3⟩ := pass_blk hp
  simp only [xc, h2, blkV] at h
  have h4 : τ (.b b) = .blk xs := by rw [hb b 0 zs rfl rfl, h2]
  simp only [pass, h4]
  exact passCs_at h h3
 ·by_cases h2 : ∃ zs, y = .ag zs
  ·obtain ⟨zs, rfl⟩ := h2
   obtain ⟨xs, rfl, h3⟩ := pass_ag hp
   simp only [xc] at h
   unfold pass
   dsimp only
   exact passCs_at h h3
  ·have h3 := pass_c (fun cs e => h1 ⟨cs, e⟩) (fun cs e => h2 ⟨cs, e⟩) hp
   have h4 : xc σ x y = [x] := by
    unfold xc
    split
    ·exact absurd ⟨_, rfl⟩ h1
    ·exact absurd ⟨_, rfl⟩ h2
    ·rfl
   rw [h4] at h
   have h5 := passC_at (fun c hc => h c (by simpa using hc)) h3
   unfold pass
   split
   ·exact absurd ⟨_, rfl⟩ h1
   ·exact absurd ⟨_, rfl⟩ h2
   ·exact h5
theorem passL_at (h : ∀ c ∈ rdx σ xs ys, τ c = σ c) (hp : passL P σ xs ys) : passL P τ xs ys := by
 have key : ∀ (k : Nat) (xs' ys' : List V), passL P σ xs' ys' → (∀ i, i < ys'.length → xs'.getD i .un = xs.getD (k + i) .un ∧ ys'.getD i .un = ys.getD (k + i) .un ∧ k + i < ys.length) → passL P τ xs' ys' := by
  intro k xs' ys'
  induction xs' generalizing k ys' with
  | nil => intro hp _; cases ys' with | nil => trivial | cons => exact hp.elim
  | cons x xs' ih =>
   intro hp hi
   cases ys' with
   | nil => exact hp.elim
   | cons y ys' =>
    obtain ⟨e1, e2, e3⟩ := hi 0 (by simp -implicitDefEqProofs -dsimp)
    simp only [Nat.add_zero] at e1 e2 e3
    have e1' : x = xs.getD k .un := by simpa using e1
    have e2' : y = ys.getD k .un := by simpa using e2
    refine ⟨pass_at (fun b o zs hx hy => h _ (rdx_blk e3 (e1' ▸ hx))) (fun c hc => h c (mem_ix.2 ⟨k, e3, List.mem_append_right _ (by rw [← e1', ← e2']; exact hc)⟩)) hp.1, ih (k + 1) ys' hp.2 fun i hi' => ?_⟩
    have := hi (i + 1) (by simpa using hi')
    rw [show k + 1 + i = k + (i + 1) by omega]
    simpa using this
 exact key 0 xs ys hp fun i hi => by rw [Nat.zero_add]; exact ⟨rfl, rfl, hi⟩
theorem wpcall_at {f : FuncId} {d : Option Nat} (h : wpcall P g f xs d σ K) : ∃ ws rd, K ws rd ∧ ∀ τ K', (∀ c ∈ rd, τ c = σ c) → (∀ p ∈ ws, τ p.1 = σ p.1) → K' ws rd → wpcall P g f xs d τ K' := by
 obtain ⟨ys, outs, rs, h1, h2⟩ := h
 obtain ⟨a1, a2, a3, a4, a5, a6, a7, a8, a9, a10, hk⟩ := h2
 refine ⟨_, _, hk, fun τ K' hr hw hk' => ⟨ys, outs, rs, fun hg => ⟨passL_at hr (h1 hg).1, (h1 hg).2⟩, ?_⟩⟩
 have hfz : frozen τ (if (rs.all ownV && outs.all ownV) = true then [] else ln σ xs ys) = frozen σ (if (rs.all ownV && outs.all ownV) = true then [] else ln σ xs ys) := frozen_at fun c hc => by
  split at hc
  ·cases hc
  ·exact hr c (ln_rdx c hc)
 unfold callK
 rw [og_at hr, ln_at hr, rdx_at hr]
 dsimp only
 rw [hfz]
 refine ⟨a1, a2, a3, a4, a5, a6, a7, fun p hp => ?_, a9, a10, hk'⟩
 have h3 := a8 p hp
 have h4 : τ p.1 = σ p.1 := hw (p.1, p.2.2) (List.mem_append_right _ (List.mem_append_right _ (List.mem_append_left _ (List.mem_map.2 ⟨p, hp, rfl⟩))))
 obtain ⟨c, p2⟩ := p
 cases c with
 | r i j => simp only at h3 h4 ⊢; rw [h4]; exact h3
 | _ => trivial
theorem appY_at {t t' e : TypeId} {Te : TD} {y : V} {d : Nat} {m : List Comp} {dp : Bool} {xs : List V} (h : appY P g t t' e Te y d σ K m dp xs) :
  ∃ ws rd, K ws rd ∧ (∀ c ∈ m, c ∈ rd) ∧ ∀ τ K', (∀ c ∈ rd, τ c = σ c) → (∀ p ∈ ws, τ p.1 = σ p.1) → K' ws rd → appY P g t t' e Te y d τ K' m dp xs := by
 have fin : ∀ {xs ys : List V} {ws : List (Comp × V)} {dq : Bool} {rd : List Comp} {dp : Bool}, appK g e Te d σ K m dp xs ys ws dq rd → ∃ ws' rd', K ws' rd' ∧ rd' = m ++ rd ∧ (∀ p ∈ ws, p ∈ ws') ∧ ∀ τ K', (∀ p ∈ ws', τ p.1 = σ p.1) → K' ws' rd' → appK g e Te d τ K' m dp xs ys ws dq rd := by
  intro xs ys ws dq rd dp ⟨b1, b2, b3, b4, b5, b6, b7⟩
  refine ⟨_, _, b7, rfl, fun p hp => List.mem_append_left _ hp, fun τ K' hw hk => ⟨b1, ?_, b3, b4, b5, b6, hk⟩⟩
  rw [hw (.r d 0, _) (List.mem_append_right _ (List.mem_append_right _ (List.mem_cons_self ..)))]; exact b2
 unfold appY at h ⊢
 split at h
 ·obtain ⟨c1, c2, c3, c4, c5, h⟩ := h
  obtain ⟨ws, rd, h1, rfl, _, h2⟩ := fin h
  exact ⟨ws, _, h1, fun c hc => List.mem_append_left _ hc, fun τ K' hr hw hk => ⟨c1, c2, c3, c4, c5, h2 τ K' hw hk⟩⟩
 ·rename_i i j
  split at h
  ·rename_i dq e' ys hb
   obtain ⟨c1, c2, c3, h⟩ := h
   obtain ⟨ws, rd, h1, rfl, hws, h2⟩ := fin h
   refine ⟨ws, _, h1, fun c hc => List.mem_append_left _ hc, fun τ K' hr hw hk => ?_⟩
   have e1 : τ (.r i j) = σ (.r i j) := hr _ (by simp -implicitDefEqProofs -dsimp)
   have e2 : frozen τ [.r i j] = frozen σ [.r i j] := frozen_at fun c hc => hr c (List.mem_append_right _ hc)
   rw [e1, hb, e2]
   exact ⟨c1, c2, c3, h2 τ K' hw hk⟩
  ·rename_i ys hb
   obtain ⟨c1, c2, h⟩ := h
   obtain ⟨ws, rd, h1, rfl, hws, h2⟩ := fin h
   refine ⟨ws, _, h1, fun c hc => List.mem_append_left _ hc, fun τ K' hr hw hk => ?_⟩
   rw [hr (.r i j) (by simp -implicitDefEqProofs -dsimp), hb]
   exact ⟨c1, c2, h2 τ K' hw hk⟩
  ·exact h.elim
 ·obtain ⟨c1, c2, h⟩ := h
  obtain ⟨ws, rd, h1, rfl, _, h2⟩ := fin h
  exact ⟨ws, _, h1, fun c hc => List.mem_append_left _ hc, fun τ K' hr hw hk => ⟨c1, c2, h2 τ K' hw hk⟩⟩
 ·obtain ⟨c1, h⟩ := h
  obtain ⟨ws, rd, h1, rfl, _, h2⟩ := fin h
  exact ⟨ws, _, h1, fun c hc => List.mem_append_left _ hc, fun τ K' hr hw hk => ⟨c1, h2 τ K' hw hk⟩⟩
 ·exact h.elim
theorem wpop_at {d : Option Nat} {op : Op} (h : wpop P g op d σ K) : AtP op σ K (fun τ K' => wpop P g op d τ K') := by
 cases op with
 | pick c x y =>
  simp only [wpop] at h
  split at h
  ·rename_i t he
   refine ⟨_, _, h, fun τ K' hs hr hw hk => ?_⟩
   simp -implicitDefEqProofs -dsimp [Op.operands] at hs
   simp only [wpop, hs.1, hs.2.1, hs.2.2, he]
   exact hk
  ·exact h.elim
 | call c =>
  obtain ⟨ce, args, ats⟩ := c
  simp only [wpop] at h
  have hargs : ∀ τ : St, (∀ x ∈ (Op.call ⟨ce, args, ats⟩).operands.toList, sop τ x = sop σ x) → ∀ x ∈ args.toList, sop τ x = sop σ x := fun τ hs x hx => hs x (by
   simp only [Op.operands, Call.operands, Array.toList_append]; exact List.mem_append_right _ hx)
  cases ce with
  | invoke r m => simp only [wpcl] at h
  | value f =>
   simp only [wpcl] at h
   split at h
   ·rename_i fid cs he
    obtain ⟨ws, rd, h1, h2⟩ := wpcall_at h
    refine ⟨ws, rd, h1, fun τ K' hs hr hw hk => ?_⟩
    have e1 := hs f (by simp -implicitDefEqProofs -dsimp [Op.operands, Call.operands])
    have e2 := sops_at (hargs τ hs)
    simp only [wpop, wpcl, e1, he, e2]
    exact h2 τ K' hr hw hk
   ·exact h.elim
  | builtin b =>
   unfold wpcl at h
   split at h
   ·rename_i h1; cases h1
   ·rename_i x y h1 h2
    cases h1
    unfold wpapp at h
    split at h
    ·rename_i t t' d hts
     split at h
     ·rename_i e Te hT
      split at h
      ·rename_i he
       obtain ⟨ws, rd, h3, _, h4⟩ := appY_at h
       refine ⟨ws, rd, h3, fun τ K' hs hr hw hk => ?_⟩
       have hx := hargs τ hs x (by rw [h2]; simp -implicitDefEqProofs -dsimp)
       have hy := hargs τ hs y (by rw [h2]; simp -implicitDefEqProofs -dsimp)
       simp only [wpop, wpcl, h2, wpapp, hts, hT, hx, hy, he]
       exact h4 τ K' hr hw hk
      ·rename_i i j he
       split at h
       ·rename_i dp e' xs hb
        obtain ⟨h0, h⟩ := h
        obtain ⟨ws, rd, h3, hm, h4⟩ := appY_at h
        refine ⟨ws, rd, h3, fun τ K' hs hr hw hk => ?_⟩
        have hx := hargs τ hs x (by rw [h2]; simp -implicitDefEqProofs -dsimp)
        have hy := hargs τ hs y (by rw [h2]; simp -implicitDefEqProofs -dsimp)
        simp only [wpop, wpcl, h2, wpapp, hts, hT, hx, hy, he, hr _ (hm _ (List.mem_singleton.2 rfl)), hb]
        exact ⟨h0, h4 τ K' hr hw hk⟩
       ·exact h.elim
      ·exact h.elim
     ·exact h.elim
    ·exact h.elim
   ·rename_i x h1 h2
    cases h1
    split at h
    ·rename_i t hts
     split at h
     ·rename_i s he
      refine ⟨_, _, h.2, fun τ K' hs hr hw hk => ?_⟩
      have hx := hargs τ hs x (by rw [h2]; simp -implicitDefEqProofs -dsimp)
      simp only [wpop, wpcl, h2, hts, hx, he]
      exact ⟨h.1, hk⟩
     ·rename_i hns
      split at h
      ·rename_i p xs rd hT hl
       refine ⟨_, _, h, fun τ K' hs hr hw hk => ?_⟩
       have hx := hargs τ hs x (by rw [h2]; simp -implicitDefEqProofs -dsimp)
       have hl' : lv τ (sop σ x) = some (xs, rd) := by
        unfold lv at hl ⊢
        split at hl
        ·exact hl
        ·exact hl
        ·rename_i i j he
         have hm : Comp.r i j ∈ rd := by
          split at hl <;> first | (cases hl; done) | (simp only [Option.some.injEq, Prod.mk.injEq] at hl; rw [← hl.2]; simp -implicitDefEqProofs -dsimp)
         rw [hr _ hm]; exact hl
        ·cases hl
       simp only [wpop, wpcl, h2, hts, hx, hT, hl']
       exact hk
      ·exact h.elim
    ·exact h.elim
   ·rename_i x y h1 h2
    cases h1
    split at h
    ·rename_i k p k' q he1 he2
     refine ⟨_, _, h.2, fun τ K' hs hr hw hk => ?_⟩
     have hx := hargs τ hs x (by rw [h2]; simp -implicitDefEqProofs -dsimp)
     have hy := hargs τ hs y (by rw [h2]; simp -implicitDefEqProofs -dsimp)
     simp only [wpop, wpcl, h2, hx, hy, he1, he2]
     exact ⟨h.1, hk⟩
    ·exact h.elim
   ·rename_i x y h1 h2
    cases h1
    split at h
    ·rename_i k p k' q he1 he2
     refine ⟨_, _, h.2, fun τ K' hs hr hw hk => ?_⟩
     have hx := hargs τ hs x (by rw [h2]; simp -implicitDefEqProofs -dsimp)
     have hy := hargs τ hs y (by rw [h2]; simp -implicitDefEqProofs -dsimp)
     simp only [wpop, wpcl, h2, hx, hy, he1, he2]
     exact ⟨h.1, hk⟩
    ·exact h.elim
   ·exact h.elim
 | _ => simp only [wpop] at h; exact wpo_at h
end
end Go.Proofs.YtlfblkekbcfjpaaGreatDoor
namespace Go.Proofs.YtlfblkekbcfjpaaGreatDoor
open Go.RowKit
section
variable {P : Program} {σ : St} {K : List (Comp × V) → List Comp → Prop} {n : Nat} {ops : Array Oper}
theorem mem_tmpsOf {o : Oper} {τ : St} (h : ∀ c ∈ tmpsOf ops o, τ c = σ c) : (∀ x ∈ o.op.operands.toList, sop τ x = sop σ x) ∧ ∀ j w i, o.guard = some (j, w) → (ops[j]?).bind (·.dst) = some i → τ (.t i) = σ (.t i) := by
 unfold tmpsOf Oper.looksAt at h
 refine ⟨fun x hx => ?_, fun j w i hg hi => h _ ?_⟩
 ·cases x with
  | tmp t =>
   refine h (.t t) (List.mem_map.2 ⟨t, List.mem_append_left _ (List.mem_filterMap.2 ⟨_, hx, rfl⟩), rfl⟩)
  | _ => rfl
 ·refine List.mem_map.2 ⟨i, List.mem_append_right _ ?_, rfl⟩
  rw [hg]
  simp -implicitDefEqProofs -dsimp [hi]
theorem gdK_at {dst : Option Nat} {l : List (Bool × Bool)} {ws : List (Comp × V)} {rd : List Comp} (h : gdK dst l K ws rd) : ∃ ws', K ws' rd ∧ (∀ p ∈ ws, ∃ q ∈ ws', p.1 = q.1) ∧ ∀ K' : List (Comp × V) → List Comp → Prop, K' ws' rd → gdK dst l K' ws rd := by
 unfold gdK at h ⊢
 split at h
 ·obtain ⟨rfl, h⟩ := h
  exact ⟨_, h, by simp, fun K' hk => ⟨rfl, hk⟩⟩
 ·exact ⟨_, h.2, fun p hp => ⟨p, hp, rfl⟩, fun K' hk => ⟨h.1, hk⟩⟩
theorem wpg_at {o : Oper} (h : wpg P n ops o σ K) : ∃ ws rd, K ws rd ∧ ∀ τ K', (∀ c ∈ tmpsOf ops o ++ rd, τ c = σ c) → (∀ p ∈ ws, τ p.1 = σ p.1) → K' ws rd → wpg P n ops o τ K' := by
 obtain ⟨hd, h⟩ := h
 split at h
 ·rename_i hg
  obtain ⟨ws, rd, h1, h2⟩ := wpop_at h
  refine ⟨ws, rd, h1, fun τ K' hr hw hk => ⟨hd, ?_⟩⟩
  rw [hg]
  exact h2 τ K' (mem_tmpsOf fun c hc => hr c (List.mem_append_left _ hc)).1 (fun c hc => hr c (List.mem_append_right _ hc)) hw hk
 ·rename_i j w hg
  split at h
  ·rename_i i hj
   obtain ⟨hi, h⟩ := h
   split at h
   ·rename_i l b hb
    obtain ⟨ws, rd, h1, h2⟩ := wpop_at h
    have fin : ∀ τ : St, (∀ c ∈ tmpsOf ops o ++ rd, τ c = σ c) → (∀ p ∈ ws, τ p.1 = σ p.1) → ∀ K', gdK o.dst (l ++ [(b, w)]) K' ws rd → wpg P n ops o τ K' := fun τ hr hw K' hk => by
     have hm := mem_tmpsOf (ops := ops) (o := o) fun c hc => hr c (List.mem_append_left _ hc)
     refine ⟨hd, ?_⟩
     rw [hg]
     dsimp only
     rw [hj]
     dsimp only
     refine ⟨hi, ?_⟩
     rw [hm.2 j w i hg hj, hb]
     dsimp only
     refine h2 _ _ (fun x hx => ?_) (fun c hc => ?_) (fun p hp => ?_) hk
     ·have := hm.1 x hx
      cases x with
      | tmp t => simp only [sop] at this ⊢; rw [this]
      | _ => rfl
     ·simp only; rw [hr c (List.mem_append_right _ hc)]
     ·simp only; rw [hw p hp]
    obtain ⟨ws', h3, h4, h5⟩ := gdK_at h1
    exact ⟨ws', rd, h3, fun τ K' hr hw hk => fin τ hr (fun p hp => by
     obtain ⟨q, hq, e⟩ := h4 p hp
     rw [e]; exact hw q hq) K' (h5 K' hk)⟩
   ·exact h.elim
  ·exact h.elim
end
section
def ClosedL (os : List Oper) (L : Nat → Bool) : Prop := ∀ j o, L j = true → os[j]? = some o → ∀ e ∈ o.after.toList, Region.binds .any e = true → L e.on = true
def AheadL (os : List Oper) (L : Nat → Bool) (j : Nat) : Prop := ∀ o, os[j]? = some o → ∀ e ∈ o.after.toList, Region.binds .any e = true → L e.on = true
def MaskOk (os : List Oper) (acc : List Nat) : Prop := ∀ j i, (acc.getD j 0).testBit i = true → ∀ L, ClosedL os L → AheadL os L j → L i = true
theorem foldM_bit {acc : List Nat} {i : Nat} : ∀ (l : List Edge) (s : Nat), (l.foldl (fun s e => if Region.binds .any e then s ||| 2 ^ e.on ||| acc.getD e.on 0 else s) s).testBit i = true →
  s.testBit i = true ∨ ∃ e ∈ l, Region.binds .any e = true ∧ (e.on = i ∨ (acc.getD e.on 0).testBit i = true)
 | [], s, h => .inl h
 | e :: l, s, h => by
  rw [List.foldl_cons] at h
  rcases foldM_bit l _ h with h1 | ⟨e', h1, h2⟩
  ·split at h1
   ·rename_i hb
    simp only [Nat.testBit_or, Nat.testBit_two_pow, Bool.or_eq_true, decide_eq_true_eq] at h1
    rcases h1 with (h1 | h1) | h1
    ·exact .inl h1
    ·exact .inr ⟨e, by simp, hb, .inl h1⟩
    ·exact .inr ⟨e, by simp, hb, .inr h1⟩
   ·exact .inl h1
  ·exact .inr ⟨e', by simp -implicitDefEqProofs -dsimp [h1], h2⟩
theorem befs_ok {os : List Oper} : ∀ (l : List Oper) (pre : List Oper) (acc : List Nat), os = pre ++ l → acc.length = pre.length → MaskOk os acc → MaskOk os (befs l acc)
 | [], _, _, _, _, h => h
 | o :: l, pre, acc, ho, hl, h => by
  refine befs_ok l (pre ++ [o]) _ (by rw [ho]; simp -implicitDefEqProofs -dsimp) (by simp -implicitDefEqProofs -dsimp [hl]) ?_
  intro j i hj L hL ha
  rcases Nat.lt_trichotomy j acc.length with hlt | heq | hgt
  ·refine h j i ?_ L hL ha
   rw [List.getD_eq_getElem?_getD, List.getElem?_append_left hlt] at hj
   rw [List.getD_eq_getElem?_getD]; exact hj
  ·subst heq
   rw [List.getD_eq_getElem?_getD, List.getElem?_append_right (Nat.le_refl _)] at hj
   simp only [Nat.sub_self, List.getElem?_cons_zero, Option.getD_some] at hj
   rcases foldM_bit _ _ hj with h1 | ⟨e, h1, h2, h3⟩
   ·simp at h1
   ·have ho' : os[acc.length]? = some o := by rw [ho, hl, List.getElem?_append_right (Nat.le_refl _)]; simp -implicitDefEqProofs -dsimp
    have he := ha o ho' e h1 h2
    rcases h3 with rfl | h3
    ·exact he
    ·exact h _ i h3 L hL fun o' ho' => hL _ o' he ho'
  ·rw [List.getD_eq_getElem?_getD, List.getElem?_append_right (by omega)] at hj
   rw [List.getElem?_eq_none (by simp -implicitDefEqProofs -dsimp; omega)] at hj
   simp at hj
theorem befs_mask (os : List Oper) : MaskOk os (befs os []) := befs_ok os [] [] rfl rfl fun j i h => by simp at h
end
section
def fo (f : Nat → Bool) : List (List (Comp × V)) → Nat → St → St
 | [], _, σ => σ
 | ws :: l, k, σ => fo f l (k + 1) (if f k then upds σ ws else σ)
theorem upds_out {c : Comp} : ∀ {ws : List (Comp × V)} {τ : St}, c ∉ ws.map Prod.fst → upds τ ws c = τ c
 | [], _, _ => rfl
 | p :: ws, τ, h => by
  simp only [upds]
  rw [upds_out fun hc => h (by simp only [List.map_cons, List.mem_cons]; exact .inr hc), upd_ne]
  intro e; exact h (by simp -implicitDefEqProofs -dsimp [e])
theorem upds_in {c : Comp} : ∀ {ws : List (Comp × V)} {τ τ' : St}, (c ∈ ws.map Prod.fst ∨ τ c = τ' c) → upds τ ws c = upds τ' ws c
 | [], _, _, h => h.elim (fun h => by cases h) id
 | p :: ws, τ, τ', h => by
  simp only [upds]
  refine upds_in ?_
  by_cases e : c = p.1
  ·subst e; exact .inr (by rw [upd_self, upd_self])
  ·rcases h with h | h
   ·exact .inl (by simpa [e] using h)
   ·exact .inr (by rw [upd_ne _ _ e, upd_ne _ _ e]; exact h)
theorem fo_agree {f g : Nat → Bool} {c : Comp} : ∀ {l : List (List (Comp × V))} {k : Nat} {τ τ' : St}, τ c = τ' c → (∀ i ws, l[i]? = some ws → c ∈ ws.map Prod.fst → f (k + i) = g (k + i)) → fo f l k τ c = fo g l k τ' c
 | [], _, _, _, h, _ => h
 | ws :: l, k, τ, τ', h, hi => by
  simp only [fo]
  refine fo_agree ?_ fun i ws' h1 h2 => by
   have := hi (i + 1) ws' (by simpa using h1) h2
   rw [show k + 1 + i = k + (i + 1) by omega]; exact this
  by_cases hc : c ∈ ws.map Prod.fst
  ·have := hi 0 ws (by simp -implicitDefEqProofs -dsimp) hc
   simp only [Nat.add_zero] at this
   rw [this]
   split
   ·exact upds_in (.inl hc)
   ·exact h
  ·split <;> split <;> simp only [upds_out hc, h]
theorem fo_none {f : Nat → Bool} : ∀ {l : List (List (Comp × V))} {k : Nat} {τ : St}, (∀ i, k ≤ i → f i = false) → fo f l k τ = τ
 | [], _, _, _ => rfl
 | ws :: l, k, τ, h => by simp only [fo, h k (Nat.le_refl _)]; exact fo_none fun i hi => h i (by omega)
theorem fo_lt : ∀ {l : List (List (Comp × V))} {k j : Nat} {τ : St}, fo (fun i => decide (i < k + j)) l k τ = (l.take j).foldl upds τ
 | [], k, j, τ => by simp -implicitDefEqProofs -dsimp [fo]
 | ws :: l, k, 0, τ => by rw [fo_none fun i hi => by simp -implicitDefEqProofs -dsimp; omega]; simp -implicitDefEqProofs -dsimp
 | ws :: l, k, j + 1, τ => by
  simp only [fo, List.take_succ_cons, List.foldl_cons]
  rw [if_pos (by simp -implicitDefEqProofs -dsimp), show k + (j + 1) = k + 1 + j by omega]
  exact fo_lt
end
section
variable {P : Program} {n : Nat} {ops : Array Oper}
def Chain (P : Program) (n : Nat) (ops : Array Oper) : List Oper → St → List (List (Comp × V) × List Comp) → Prop
 | [], _, [] => True
 | o :: os, σ, (ws, rd) :: l => (∀ τ K', (∀ c ∈ tmpsOf ops o ++ rd, τ c = σ c) → (∀ p ∈ ws, τ p.1 = σ p.1) → K' ws rd → wpg P n ops o τ K') ∧ Chain P n ops os (upds σ ws) l
 | _, _, _ => False
def fpsOf (ops : Array Oper) : List Oper → List (List (Comp × V) × List Comp) → List FP
 | o :: os, (ws, rd) :: l => ⟨tmpsOf ops o ++ rd, ws.map Prod.fst⟩ :: fpsOf ops os l
 | _, _ => []
theorem wpd_chain {Q : List FP → St → Prop} : ∀ {os : List Oper} {σ : St} {fp : List FP}, wpd P n ops Q os σ fp → ∃ l, Chain P n ops os σ l ∧ Q (fp ++ fpsOf ops os l) ((l.map Prod.fst).foldl upds σ)
 | [], σ, fp, h => ⟨[], trivial, by simpa [fpsOf, wpd] using h⟩
 | o :: os, σ, fp, h => by
  simp only [wpd] at h
  obtain ⟨ws, rd, h1, h2⟩ := wpg_at h
  obtain ⟨l, h3, h4⟩ := wpd_chain h1
  refine ⟨(ws, rd) :: l, ⟨h2, h3⟩, ?_⟩
  simpa [fpsOf, List.append_assoc] using h4
theorem Chain.len : ∀ {os : List Oper} {σ : St} {l : List (List (Comp × V) × List Comp)}, Chain P n ops os σ l → l.length = os.length
 | [], _, [], _ => rfl
 | [], _, _ :: _, h => h.elim
 | _ :: _, _, [], h => h.elim
 | _ :: _, _, _ :: _, h => by simp only [List.length_cons]; rw [Chain.len h.2]
theorem Chain.at : ∀ {os : List Oper} {σ : St} {l : List (List (Comp × V) × List Comp)}, Chain P n ops os σ l → ∀ {j : Nat} {o : Oper}, os[j]? = some o → ∃ ws rd, l[j]? = some (ws, rd) ∧
  (∀ τ K', (∀ c ∈ tmpsOf ops o ++ rd, τ c = ((l.map Prod.fst).take j).foldl upds σ c) → (∀ p ∈ ws, τ p.1 = ((l.map Prod.fst).take j).foldl upds σ p.1) → K' ws rd → wpg P n ops o τ K') ∧ (fpsOf ops os l)[j]? = some ⟨tmpsOf ops o ++ rd, ws.map Prod.fst⟩
 | [], _, _, _, _, _, h => by simp at h
 | _ :: _, _, [], h, _, _, _ => h.elim
 | o :: os, σ, (ws, rd) :: l, h, 0, o', ho => by
  simp only [List.getElem?_cons_zero, Option.some.injEq] at ho
  subst ho
  exact ⟨ws, rd, rfl, h.1, rfl⟩
 | o :: os, σ, (ws, rd) :: l, h, j + 1, o', ho => by
  obtain ⟨ws', rd', h1, h2, h3⟩ := Chain.at h.2 (by simpa using ho)
  refine ⟨ws', rd', by simpa using h1, ?_, by simpa [fpsOf] using h3⟩
  simpa using h2
theorem apart_ws {a b : FP} (h : apartFP a b = true) : (∀ c ∈ a.ws, c ∉ b.rd ∧ c ∉ b.ws) ∧ ∀ c ∈ b.ws, c ∉ a.rd ∧ c ∉ a.ws := by
 unfold apartFP at h
 simp only [Bool.and_eq_true, List.all_eq_true, Bool.not_eq_true', List.contains_eq_mem, decide_eq_false_iff_not] at h
 exact ⟨h.1, fun c hc => ⟨h.2 c hc, fun hc' => (h.1 c hc').2 hc⟩⟩
theorem chk_edge {fp : List FP} (h : chkFP ops fp = true) {j : Nat} {o : Oper} (ho : ops.toList[j]? = some o) : ∀ e ∈ o.after.toList, Region.binds .any e = true → e.on < j := by
 unfold chkFP at h
 simp only [Bool.and_eq_true, List.all_eq_true, List.mem_range] at h
 have h1 := h.1 j (List.getElem?_eq_some_iff.1 ho).1
 rw [ho] at h1
 simp only [List.all_eq_true, Bool.or_eq_true, Bool.not_eq_true', decide_eq_true_eq] at h1
 intro e he hb
 rcases h1 e he with h2 | h2
 ·rw [hb] at h2; cases h2
 ·exact h2
theorem chk_pair {fp : List FP} (h : chkFP ops fp = true) {i j : Nat} (hij : i < j) {x y : FP} (hx : fp[i]? = some x) (hy : fp[j]? = some y) :
  apartFP x y = true ∨ ∀ L, ClosedL ops.toList L → AheadL ops.toList L j → L i = true := by
 unfold chkFP at h
 simp only [Bool.and_eq_true, List.all_eq_true, List.mem_range] at h
 have h1 := h.2 j (List.getElem?_eq_some_iff.1 hy).1 i hij
 rw [hx, hy] at h1
 simp only [Bool.or_eq_true] at h1
 rcases h1 with h1 | h1
 ·exact .inr (befs_mask ops.toList j i h1)
 ·exact .inl h1
theorem count_ready {listed : Array Bool} {j : Nat} (hj : listed[j]? = some false) : (listed.setIfInBounds j true).toList.count false + 1 = listed.toList.count false := by
 have h1 : j < listed.toList.length := by
  simpa using (Array.getElem?_eq_some_iff.1 hj).1
 have h2 : listed.toList[j] = false := by
  have := (Array.getElem?_eq_some_iff.1 hj).2
  simpa using this
 rw [Array.toList_setIfInBounds, List.count_set h1, h2]
 have : 0 < listed.toList.count false := List.count_pos_iff.2 (h2 ▸ List.getElem_mem h1)
 simp only [beq_self_eq_true, if_true, show (true == false) = false from rfl, Bool.false_eq_true, if_false]
 omega
end
section
variable {P : Program} {n np : Nat} {ops : Array Oper} {σ : St} {l : List (List (Comp × V) × List Comp)}
theorem open_apart (hc : Chain P n ops ops.toList σ l) (hk : chkFP ops (fpsOf ops ops.toList l) = true) {L : Nat → Bool} (hL : ClosedL ops.toList L) {j : Nat} {o : Oper} {ws : List (Comp × V)} {rd : List Comp}
  (ho : ops.toList[j]? = some o) (hj : L j = false) (ha : AheadL ops.toList L j) (hl : l[j]? = some (ws, rd)) {i : Nat} {wi : List (Comp × V)} (hi : (l.map Prod.fst)[i]? = some wi) (hij : i ≠ j) (hdiff : L i ≠ decide (i < j)) {c : Comp} (hci : c ∈ wi.map Prod.fst) :
  c ∉ tmpsOf ops o ++ rd ∧ c ∉ ws.map Prod.fst := by
 have hli : i < l.length := by simpa using (List.getElem?_eq_some_iff.1 hi).1
 have hi2 : i < ops.toList.length := by rw [← hc.len]; exact hli
 obtain ⟨oi, hoi⟩ : ∃ oi, ops.toList[i]? = some oi := ⟨_, List.getElem?_eq_getElem hi2⟩
 obtain ⟨wi', ri, hwi, _, hfi⟩ := hc.at hoi
 obtain ⟨wj', rj, hwj, _, hfj⟩ := hc.at ho
 rw [hl] at hwj; obtain ⟨rfl, rfl⟩ : ws = wj' ∧ rd = rj := by simpa using hwj
 have hwi2 : wi = wi' := by
  rw [List.getElem?_map, hwi] at hi
  simpa using hi.symm
 subst hwi2
 rcases Nat.lt_or_gt_of_ne hij with hlt | hgt
 ·rcases chk_pair hk hlt hfi hfj with h1 | h1
  ·exact (apart_ws h1).1 c hci
  ·exact absurd (h1 L hL ha) (by simpa [hlt] using hdiff)
 ·have hLi : L i = true := by
   have : decide (i < j) = false := by simp -implicitDefEqProofs -dsimp; omega
   rw [this] at hdiff
   simpa using hdiff
  rcases chk_pair hk hgt hfj hfi with h1 | h1
  ·exact (apart_ws h1).2 c hci
  ·have := h1 L hL fun o' ho' => hL i o' hLi ho'
   rw [hj] at this; cases this
theorem drawn_any (hc : Chain P n ops ops.toList σ l) (hk : chkFP ops (fpsOf ops ops.toList l) = true) {C : Ctx} (hP : C.P = P) {QQ : Exit → Act → World → Prop} (hout : True)
  (hq : ∀ w a, Held C ((l.map Prod.fst).foldl upds σ) w a → a.tmps.size = n → QQ .normal a w) : ∀ (fuel : Nat) (listed : Array Bool) (a : Act) (w : World), listed.size = ops.size → listed.toList.count false ≤ fuel →
  ClosedL ops.toList (fun i => listed.getD i false) → Held C (fo (fun i => listed.getD i false) (l.map Prod.fst) 0 σ) w a → a.tmps.size = n → wpAny P .any ops QQ fuel listed a w := by
 have done : ∀ (listed : Array Bool) (a : Act) (w : World), listed.size = ops.size → Region.ready .any ops listed = [] → Held C (fo (fun i => listed.getD i false) (l.map Prod.fst) 0 σ) w a → a.tmps.size = n → QQ .normal a w := by
  intro listed a w hsz hr hh hs
  refine hq w a ?_ hs
  have all : ∀ j, j < ops.size → listed.getD j false = true := by
   intro j
   induction j using Nat.strongRecOn with
   | ind j ih =>
    intro hj
    cases hg : listed.getD j false with
    | true => rfl
    | false =>
     exfalso
     have ho : ops[j]? = some ops[j] := Array.getElem?_eq_getElem hj
     have : j ∈ Region.ready .any ops listed := by
      refine mem_ready.2 ⟨?_, _, ho, fun e he hb => ?_⟩
      ·rw [Array.getD_eq_getD_getElem?, Array.getElem?_eq_getElem (by omega)] at hg ⊢; exact hg
      ·have h1 := chk_edge hk (j := j) (o := ops[j]) (by simp -implicitDefEqProofs -dsimp) e (by simpa using he) hb
       exact ih _ h1 (by omega)
     rw [hr] at this; cases this
  have e : fo (fun i => listed.getD i false) (l.map Prod.fst) 0 σ = (l.map Prod.fst).foldl upds σ := by
   have h1 := fo_lt (l := l.map Prod.fst) (k := 0) (j := l.length) (τ := σ)
   rw [List.take_of_length_le (by simp -implicitDefEqProofs -dsimp)] at h1
   rw [← h1]
   funext c
   refine fo_agree rfl fun i ws hi _ => ?_
   have hi' : i < l.length := by simpa using (List.getElem?_eq_some_iff.1 hi).1
   have h2 : i < ops.size := by have := hc.len; simp at this; omega
   simp only [Nat.zero_add]
   rw [all i h2]; simp -implicitDefEqProofs -dsimp [hi']
  rw [e] at hh
  exact hh
 intro fuel
 induction fuel with
 | zero =>
  intro listed a w hsz hcnt hL hh hs
  have hr : Region.ready .any ops listed = [] := by
   refine List.eq_nil_iff_forall_not_mem.2 fun j hj => ?_
   obtain ⟨h0, o, ho, _⟩ := mem_ready.1 hj
   have hj' : j < listed.size := by rw [hsz]; exact (Array.getElem?_eq_some_iff.1 ho).1
   rw [Array.getD_eq_getD_getElem?, Array.getElem?_eq_getElem hj'] at h0
   have := count_ready (listed := listed) (j := j) (by rw [Array.getElem?_eq_getElem hj']; simpa using h0)
   omega
  exact ⟨hr, done listed a w hsz hr hh hs⟩
 | succ fuel ih =>
  intro listed a w hsz hcnt hL hh hs
  refine ⟨fun hr => done listed a w hsz hr hh hs, fun j hj => ?_⟩
  obtain ⟨h0, o, ho, hall⟩ := mem_ready.1 hj
  have hj' : j < listed.size := by rw [hsz]; exact (Array.getElem?_eq_some_iff.1 ho).1
  have hjf : listed[j]? = some false := by
   rw [Array.getD_eq_getD_getElem?, Array.getElem?_eq_getElem hj'] at h0
   rw [Array.getElem?_eq_getElem hj']; simpa using h0
  have hLj : listed.getD j false = false := by rw [Array.getD_eq_getD_getElem?, hjf]; rfl
  have ho' : ops.toList[j]? = some o := by simpa using ho
  have ha : AheadL ops.toList (fun i => listed.getD i false) j := fun o2 ho2 e he hb => by
   rw [ho'] at ho2; cases ho2
   exact hall e (by simpa using he) hb
  obtain ⟨ws, rd, hlj, hat, _⟩ := hc.at ho'
  have hap := fun {i : Nat} {wi : List (Comp × V)} (hi : (l.map Prod.fst)[i]? = some wi) => open_apart hc hk hL ho' hLj ha hlj hi
  have agree : ∀ c, (c ∈ tmpsOf ops o ++ rd ∨ c ∈ ws.map Prod.fst) → fo (fun i => listed.getD i false) (l.map Prod.fst) 0 σ c = ((l.map Prod.fst).take j).foldl upds σ c := by
   intro c hcc
   rw [← fo_lt (k := 0)]
   refine fo_agree rfl fun i wi hi hci => ?_
   simp only [Nat.zero_add]
   by_cases hij : i = j
   ·subst hij; rw [hLj]; simp -implicitDefEqProofs -dsimp
   ·by_cases hd : listed.getD i false = decide (i < j)
    ·exact hd
    ·have := hap hi hij hd hci
     rcases hcc with h | h
     ·exact absurd h this.1
     ·exact absurd h this.2
  obtain ⟨E, cb, Fc, h⟩ := hh
  have hw := hat (fo (fun i => listed.getD i false) (l.map Prod.fst) 0 σ) (fun ws' rd' => ws' = ws) (fun c hc' => agree c (.inl hc')) (fun p hp => agree p.1 (.inr (List.mem_map.2 ⟨p, hp, rfl⟩))) rfl
  unfold wpOp
  rw [ho]
  simp only
  refine wpg_sound (next := wpAny P .any ops QQ fuel (listed.setIfInBounds j true)) h hP hs ?_ hout hw
  intro ws' rd' a' w' he hh' hsz'
  subst he
  have hset : ∀ i, (listed.setIfInBounds j true).getD i false = if i = j then true else listed.getD i false := fun i => by
   split
   ·rename_i hij
    subst hij
    simp -implicitDefEqProofs -dsimp [hj']
   ·rename_i hij
    exact getD_set_ne false (Ne.symm hij)
  refine ih _ a' w' (by simpa using hsz) (by have := count_ready hjf; omega) ?_ ?_ (by omega)
  ·intro i oi hi hoi e he hb
   simp only [hset] at hi ⊢
   split
   ·rfl
   ·split at hi
    ·rename_i hij
     subst hij
     exact ha oi hoi e he hb
    ·exact hL i oi hi hoi e he hb
  ·have e : fo (fun i => (listed.setIfInBounds j true).getD i false) (l.map Prod.fst) 0 σ = upds (fo (fun i => listed.getD i false) (l.map Prod.fst) 0 σ) ws' := by
    funext c
    by_cases hcw : c ∈ ws'.map Prod.fst
    ·have h1 : upds (fo (fun i => listed.getD i false) (l.map Prod.fst) 0 σ) ws' c = upds (((l.map Prod.fst).take j).foldl upds σ) ws' c := upds_in (.inl hcw)
     have h2 : ((l.map Prod.fst).take (j + 1)).foldl upds σ = upds (((l.map Prod.fst).take j).foldl upds σ) ws' := by
      rw [List.take_add_one, List.getElem?_map, hlj]
      simp -implicitDefEqProofs -dsimp
     rw [h1, ← h2, ← fo_lt (k := 0)]
     refine fo_agree rfl fun i wi hi hci => ?_
     simp only [Nat.zero_add, hset]
     split
     ·rename_i hij; subst hij; simp -implicitDefEqProofs -dsimp
     ·rename_i hij
      by_cases hd : listed.getD i false = decide (i < j)
      ·rw [hd]; simp -implicitDefEqProofs -dsimp; omega
      ·exact absurd hcw (hap hi hij hd hci).2
    ·rw [upds_out hcw]
     refine fo_agree rfl fun i wi hi hci => ?_
     simp only [Nat.zero_add, hset]
     split
     ·rename_i hij
      subst hij
      rw [List.getElem?_map, hlj] at hi
      simp at hi
      subst hi
      exact absurd hci hcw
     ·rfl
   rw [e]
   exact hh'
theorem Held.draw {C : Ctx} {σ : St} {w : World} {a : Act} (h : Held C σ w a) {k : Nat} : Held C σ { w with drawn := k } a := by
 obtain ⟨E, cb, Fc, h⟩ := h
 exact ⟨E, cb, Fc, { h with }⟩
theorem drawn_sound {id : Nat} {Q : Ex → St → Prop} (hm : P.follows .mixedOrders = true) (h : wpd P n ops (fun fp σ' => chkFP ops fp = true ∧ Q .nm σ') ops.toList σ []) : W P n np (.region id ops true) Q σ := by
 intro C w a QQ hP hnp hh hs hq hout
 obtain ⟨l, hc, hk, hQ⟩ := wpd_chain h
 rw [List.nil_append] at hk
 refine wp_region_any hm (drawn_any hc hk hP hout (fun w' a' h1 h2 => hq .nm _ w' a' hQ h1 h2) _ _ _ _ (by simp -implicitDefEqProofs -dsimp) ?_ ?_ ?_ hs)
 ·simp -implicitDefEqProofs -dsimp
 ·intro j o hj
  simp only [Array.getD_eq_getD_getElem?, Array.getElem?_replicate] at hj
  split at hj <;> simp at hj
 ·rw [fo_none]
  ·exact hh.draw
  ·intro i _
   simp only [Array.getD_eq_getD_getElem?, Array.getElem?_replicate]
   split <;> rfl
end
end Go.Proofs.YtlfblkekbcfjpaaGreatDoor
