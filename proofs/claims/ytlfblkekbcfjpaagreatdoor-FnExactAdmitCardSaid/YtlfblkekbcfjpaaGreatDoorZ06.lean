/- Part of a proof: contracts and plain laws. -/
import Derived.Test.YtlfblkekbcfjpaaGreatDoorZ05
set_option linter.unusedVariables false
set_option linter.unusedSimpArgs false
namespace Go.Proofs.YtlfblkekbcfjpaaGreatDoor
open Go.RowKit
def lk {α : Type} (o : List (Comp × α)) (c : Comp) : Option α := (o.find? (fun p => decide (p.1 = c))).map (·.2)
theorem lk_mem {α : Type} {o : List (Comp × α)} {c : Comp} {x : α} (h : lk o c = some x) : (c, x) ∈ o := by
 unfold lk at h
 simp only [Option.map_eq_some_iff] at h
 obtain ⟨p, h1, rfl⟩ := h
 have h2 := List.find?_some h1
 simp only [decide_eq_true_eq] at h2
 rw [← h2]
 exact List.mem_of_find?_eq_some h1
theorem lk_of {α : Type} {o : List (Comp × α)} {c : Comp} {x : α} (hn : (o.map (·.1)).Nodup) (h : (c, x) ∈ o) : lk o c = some x := by
 induction o with
 | nil => cases h
 | cons p o ih =>
  simp only [List.map_cons, List.nodup_cons] at hn
  unfold lk
  rw [List.find?_cons]
  by_cases hp : p.1 = c
  ·simp only [hp, decide_true, Option.map_some, Option.some.injEq]
   rcases List.mem_cons.1 h with rfl | h
   ·rfl
   ·exact absurd (hp ▸ List.mem_map.2 ⟨(c, x), h, rfl⟩) hn.1
  ·simp only [hp, decide_false]
   rcases List.mem_cons.1 h with rfl | h
   ·exact absurd rfl hp
   ·exact ih hn.2 h
theorem lk_none {α : Type} {o : List (Comp × α)} {c : Comp} (h : ∀ x, (c, x) ∉ o) : lk o c = none := by
 cases hl : lk o c with
 | none => rfl
 | some x => exact absurd (lk_mem hl) (h x)
theorem getD_un (l : List V) {j : Nat} (h : l.length ≤ j) : l.getD j .un = .un := by simp -implicitDefEqProofs -dsimp [List.getD, List.getElem?_eq_none h]
theorem pass_blk {P : Program} {σ : St} {x : V} {ys : List V} (h : pass P σ x (.blk ys)) : ∃ b xs, x = .pt b 0 ∧ σ (.b b) = .blk xs ∧ passCs P σ xs ys := by
 unfold pass at h
 dsimp only at h
 split at h
 ·split at h
  ·rename_i b _ xs hb
   exact ⟨b, xs, rfl, hb, h⟩
  ·exact h.elim
 ·exact h.elim
theorem pass_ag {P : Program} {σ : St} {x : V} {ys : List V} (h : pass P σ x (.ag ys)) : ∃ xs, x = .ag xs ∧ passCs P σ xs ys := by
 unfold pass at h
 dsimp only at h
 split at h
 ·exact ⟨_, rfl, h⟩
 ·exact h.elim
theorem pass_c {P : Program} {σ : St} {x y : V} (h1 : ∀ cs, y ≠ .blk cs) (h2 : ∀ cs, y ≠ .ag cs) (h : pass P σ x y) : passC P σ x y := by
 unfold pass at h
 split at h
 ·exact absurd rfl (h1 _)
 ·exact absurd rfl (h2 _)
 ·exact h
theorem passC_one {P : Program} {σ : St} {x y : V} {E : Env} {F : List Nat} {v : Value} (h : passC P σ x y) (hu : y ≠ .un) (h2 : ∀ cs, y ≠ .ag cs) (hx : R x E F v) : v.oneCell' = true := by
 unfold passC at h
 split at h
 ·split at h
  ·exact R_one hx rfl (by simp -implicitDefEqProofs -dsimp)
  ·exact R_one hx rfl (by simp -implicitDefEqProofs -dsimp)
  ·exact h.elim
 ·split at h
  ·exact R_one hx rfl (by simp -implicitDefEqProofs -dsimp)
  ·exact R_one hx rfl (by simp -implicitDefEqProofs -dsimp)
  ·exact R_one hx rfl (by simp -implicitDefEqProofs -dsimp)
  ·exact R_one hx rfl (by simp -implicitDefEqProofs -dsimp)
  ·exact h.elim
 ·exact absurd rfl hu
 ·obtain ⟨h3, rfl⟩ := h
  refine R_one hx ?_ h2
  cases x <;> first | rfl | exact absurd rfl hu | cases h3
def entC (i j : Nat) : V → V
 | .row .. => .own i j
 | x => x
theorem entCs_cons (i j : Nat) (x : V) (cs : List V) : entCs i j (x :: cs) = entC i j x :: entCs i (j + 1) cs := by
 cases x <;> simp -implicitDefEqProofs -dsimp [entCs, entC]
theorem entCs_ok {E E' : Env} {i : Nat} : ∀ {xs ys : List V} {j0 : Nat} {F : List Nat} {vs : List Value}, xs.length = ys.length →
  (∀ j F v, j < ys.length → R (xs.getD j .un) E F v → v.oneCell' = true → ∃ F', R (entC i (j0 + j) (ys.getD j .un)) E' F' v) → Rs xs E F vs → ∃ F', Rs (entCs i j0 ys) E' F' vs
 | [], [], _, _, _, _, _, hx => by
  unfold Rs at hx
  obtain ⟨_, rfl⟩ := hx
  exact ⟨[], by simp only [entCs]; unfold Rs; exact ⟨rfl, rfl⟩⟩
 | [], _ :: _, _, _, _, hl, _, _ => by simp at hl
 | _ :: _, [], _, _, _, hl, _, _ => by simp at hl
 | x :: xs, y :: ys, j0, _, _, hl, hc, hx => by
  unfold Rs at hx
  obtain ⟨F1, F2, v, ws, _, rfl, h3, h4, h5⟩ := hx
  obtain ⟨G1, h6⟩ := hc 0 F1 v (by simp -implicitDefEqProofs -dsimp) (by simpa using h3) h4
  obtain ⟨G2, h7⟩ := entCs_ok (E' := E') (i := i) (j0 := j0 + 1) (by simpa using hl) (fun j F v hj hr h1 => by
   have := hc (j + 1) F v (by simpa using hj) (by simpa using hr) h1
   rw [show j0 + 1 + j = j0 + (j + 1) by omega]; simpa using this) h5
  rw [entCs_cons]
  exact ⟨G1 ++ G2, by unfold Rs; exact ⟨G1, G2, v, ws, rfl, rfl, by simpa using h6, h4, h7⟩⟩
section
variable {C : Ctx} {E : Env} {cb : Comp → Option Nat} {Fc : Comp → List Nat} {σ : St} {w : World} {a : Act} {xs ys : List V}
def xij (σ : St) (xs ys : List V) (i j : Nat) : V := (xc σ (xs.getD i .un) (ys.getD i .un)).getD j .un
def yij (ys : List V) (i j : Nat) : V := (yc (ys.getD i .un)).getD j .un
theorem og_mem {c c0 : Comp} (h : (c, c0) ∈ og σ xs ys) :
  (∃ i b o ys', i < ys.length ∧ c = .b i ∧ c0 = .b b ∧ xs.getD i .un = .pt b o ∧ ys.getD i .un = .blk ys') ∨
  (∃ i j p q d e zs, i < ys.length ∧ j < (yc (ys.getD i .un)).length ∧ c = .r i j ∧ c0 = .r p q ∧ xij σ xs ys i j = .own p q ∧ yij ys i j = .row d e zs) := by
 unfold og at h
 obtain ⟨i, hi, h⟩ := mem_ix.1 h
 rcases List.mem_append.1 h with h | h
 ·unfold ogB at h
  split at h
  ·rename_i b o ys' h1 h2
   simp only [List.mem_singleton, Prod.mk.injEq] at h
   exact .inl ⟨i, b, o, ys', hi, h.1, h.2, h1, h2⟩
  ·cases h
 ·obtain ⟨j, hj, h⟩ := mem_ix.1 h
  unfold ogR at h
  split at h
  ·rename_i p q d e zs h1 h2
   simp only [List.mem_singleton, Prod.mk.injEq] at h
   exact .inr ⟨i, j, p, q, d, e, zs, hi, hj, h.1, h.2, h1, h2⟩
  ·cases h
theorem og_blk {i b o : Nat} {ys' : List V} (hi : i < ys.length) (h1 : xs.getD i .un = .pt b o) (h2 : ys.getD i .un = .blk ys') : (Comp.b i, Comp.b b) ∈ og σ xs ys :=
 mem_ix.2 ⟨i, hi, List.mem_append_left _ (by rw [h1, h2]; simp -implicitDefEqProofs -dsimp [ogB])⟩
theorem og_row {i j p q : Nat} {d : Bool} {e : TypeId} {zs : List V} (hi : i < ys.length) (hj : j < (yc (ys.getD i .un)).length) (h1 : xij σ xs ys i j = .own p q) (h2 : yij ys i j = .row d e zs) : (Comp.r i j, Comp.r p q) ∈ og σ xs ys :=
 mem_ix.2 ⟨i, hi, List.mem_append_right _ (mem_ix.2 ⟨j, hj, by unfold xij at h1; unfold yij at h2; rw [h1, h2]; simp -implicitDefEqProofs -dsimp [ogR]⟩)⟩
theorem ln_mem {c : Comp} (h : c ∈ ln σ xs ys) : ∃ p q, c = .r p q ∧ isRow (σ c) = true := by
 unfold ln at h
 obtain ⟨i, hi, h⟩ := mem_ix.1 h
 obtain ⟨j, hj, h⟩ := mem_ix.1 h
 unfold lnC at h
 split at h
 ·rename_i p q zs h1 h2
  split at h
  ·rename_i hr
   simp only [List.mem_singleton] at h
   subst h
   exact ⟨p, q, rfl, hr⟩
  ·cases h
 ·cases h
theorem ln_of {i j p q : Nat} {zs : List V} (hi : i < ys.length) (hj : j < (yc (ys.getD i .un)).length) (h1 : xij σ xs ys i j = .own p q) (h2 : yij ys i j = .sl zs) (hr : isRow (σ (.r p q)) = true) : Comp.r p q ∈ ln σ xs ys :=
 mem_ix.2 ⟨i, hi, mem_ix.2 ⟨j, hj, by unfold xij at h1; unfold yij at h2; rw [h1, h2]; simp -implicitDefEqProofs -dsimp [lnC, hr]⟩⟩
def inEnv (E : Env) (Φ : Nat → Nat → Option Value) (σ : St) (xs ys : List V) : Env where
 Φ := Φ
 μ := fun i => match lk (og σ xs ys) (.b i) with | some (.b b) => E.μ b | _ => none
 ρ := fun i j => match rowAt (yij ys i j) with
  | .row .. => match lk (og σ xs ys) (.r i j) with | some (.r p q) => E.ρ p q | _ => some (.slice none 0 0)
  | _ => none
 loc := true
def inX (σ : St) (cb : Comp → Option Nat) (Fc : Comp → List Nat) (xs ys : List V) : List Nat := ((og σ xs ys).map (·.2)).flatMap fun c => exc (σ c) (cb c) (Fc c)
theorem Sim.callIn (h : Sim C E cb Fc σ w a) {us : Array Value} (hval : ∀ i, i < ys.length → ∃ F, R (xs.getD i .un) E F (us.getD i undef)) (hp : passL C.P σ xs ys)
  (hn1 : ((og σ xs ys).map (·.1)).Nodup) (hn2 : ((og σ xs ys).map (·.2)).Nodup) (hln : ∀ c ∈ ln σ xs ys, c ∉ (og σ xs ys).map (·.2)) :
  Sim ⟨C.P, w, (E.fz w cb (ln σ xs ys)).Φ, inX σ cb Fc xs ys, (inEnv E (E.fz w cb (ln σ xs ys)).Φ σ xs ys).μ, ys.length⟩ (inEnv E (E.fz w cb (ln σ xs ys)).Φ σ xs ys) (fun c => (lk (og σ xs ys) c).bind cb) (fun c => match lk (og σ xs ys) c with | some c0 => Fc c0 | none => []) (inSt ys) w ⟨us, []⟩ := by
 have hlnr : ∀ c ∈ ln σ xs ys, ∃ i j, c = .r i j ∧ isRow (σ c) = true := fun c hc => ln_mem hc
 obtain ⟨h1, hFz⟩ := h.freezeL (ln σ xs ys) hlnr
 have hΦ : ∀ b o u, E.Φ b o = some u → (E.fz w cb (ln σ xs ys)).Φ b o = some u := (fz_le h _).1
 have hcell : ∀ i, i < ys.length → ∀ j F v, j < (yc (ys.getD i .un)).length → R (xij σ xs ys i j) E F v → v.oneCell' = true → ∃ F', R (entC i j (yij ys i j)) (inEnv E (E.fz w cb (ln σ xs ys)).Φ σ xs ys) F' v := by
  intro i hi j F v hj hx h1v
  have hpc := passCs_get (pass_cells (passL_get hp i hi)) j hj
  change passC C.P σ (xij σ xs ys i j) (yij ys i j) at hpc
  unfold passC at hpc
  split at hpc
  ·rename_i d e zs hy
   have hρ : ∀ u, (match lk (og σ xs ys) (.r i j) with | some (.r p q) => E.ρ p q | _ => some (.slice none 0 0)) = some u → u = v → ∃ F', R (entC i j (V.row d e zs)) (inEnv E (E.fz w cb (ln σ xs ys)).Φ σ xs ys) F' v := fun u hu huv => by
    subst huv
    refine ⟨[], ?_⟩
    simp only [entC]; unfold R
    exact ⟨rfl, rfl, by simp only [inEnv, hy, rowAt]; exact hu, h1v⟩
   rw [hy]
   split at hpc
   ·rename_i p q hxe
    rw [hxe] at hx
    unfold R at hx
    obtain ⟨_, _, h2, _⟩ := hx
    exact hρ v (by rw [lk_of hn1 (og_row hi hj hxe hy)]; exact h2) rfl
   ·rename_i hxe
    rw [hxe] at hx
    unfold R at hx
    refine hρ (.slice none 0 0) ?_ hx.2.symm
    rw [lk_none fun c0 hc0 => ?_]
    rcases og_mem hc0 with ⟨_, _, _, _, _, h2, _⟩ | ⟨i', j', p, q, _, _, _, _, _, h2, _, h3, _⟩
    ·cases h2
    ·obtain ⟨rfl, rfl⟩ : i = i' ∧ j = j' := by simpa using h2
     rw [hxe] at h3; cases h3
   ·exact hpc.elim
  ·rename_i zs hy
   rw [hy]
   simp only [entC]
   split at hpc
   ·rename_i p q hxe
    rw [hxe] at hx
    unfold R at hx
    obtain ⟨_, _, h2, _⟩ := hx
    split at hpc
    ·rename_i d e zs' hb
     subst hpc
     obtain ⟨u, F', h3, h4, _⟩ := hFz p q d e zs' (ln_of hi hj hxe hy (by rw [hb]; rfl)) hb
     obtain rfl := Option.some.inj (h2.symm.trans h3)
     exact ⟨F', R.data (E := E.fz w cb (ln σ xs ys)) rfl (fun _ _ _ _ h => h) h4⟩
    ·rename_i zs' hb
     subst hpc
     have h3 := h.mem (.r p q)
     rw [hb] at h3
     obtain ⟨_, u, h4, F', h5⟩ := h3
     obtain rfl := Option.some.inj (h2.symm.trans h4)
     exact ⟨F', R.data rfl (fun b _ o u hu => hΦ b o u hu) h5⟩
    ·exact hpc.elim
   ·rename_i hxe
    rw [hxe] at hx
    unfold R at hx
    obtain ⟨_, rfl⟩ := hx
    subst hpc
    exact ⟨[], by unfold R; exact ⟨none, 0, rfl, Nat.le_refl _, Nat.zero_le _, .inl ⟨rfl, rfl, fun _ => rfl⟩⟩⟩
   ·rename_i zs' hxe
    rw [hxe] at hx
    subst hpc
    exact ⟨F, R.data rfl (fun b _ o u hu => hΦ b o u hu) hx⟩
   ·rename_i zs' hxe
    rw [hxe, R_pin] at hx
    subst hpc
    exact ⟨F, R.data rfl (fun b _ o u hu => hΦ b o u hu) hx.2⟩
   ·exact hpc.elim
  ·rename_i hy
   rw [hy]
   exact ⟨[], by simp only [entC]; unfold R; rfl⟩
  ·rename_i hnr _ _
   have : entC i j (yij ys i j) = yij ys i j := by
    cases hy : yij ys i j <;> first | rfl | exact absurd hy (hnr _ _ _)
   rw [this, ← hpc.2]
   exact ⟨F, R.data hpc.1 (fun b _ o u hu => hΦ b o u hu) hx⟩
 have hxl : ∀ i, i < ys.length → (xc σ (xs.getD i .un) (ys.getD i .un)).length = (yc (ys.getD i .un)).length := fun i hi => passCs_len (pass_cells (passL_get hp i hi))
 have hto : ∀ c c0, lk (og σ xs ys) c = some c0 → c0 ∈ (og σ xs ys).map (·.2) := fun c c0 hc => List.mem_map.2 ⟨_, lk_mem hc, rfl⟩
 have hinj : ∀ c c' c0, lk (og σ xs ys) c = some c0 → lk (og σ xs ys) c' = some c0 → c = c' := fun c c' c0 hc hc' => by
  have key : ∀ (o : List (Comp × Comp)), (o.map (·.2)).Nodup → (c, c0) ∈ o → (c', c0) ∈ o → c = c' := by
   intro o
   induction o with
   | nil => intro _ h _; cases h
   | cons p o ih =>
    intro hn h1 h2
    simp only [List.map_cons, List.nodup_cons] at hn
    rcases List.mem_cons.1 h1 with h3 | h3
    ·rcases List.mem_cons.1 h2 with h4 | h4
     ·exact (congrArg Prod.fst h3).trans (congrArg Prod.fst h4).symm
     ·exact absurd (List.mem_map.2 ⟨(c', c0), h4, (by have := congrArg Prod.snd h3; exact this)⟩ : p.2 ∈ o.map (·.2)) hn.1
    ·rcases List.mem_cons.1 h2 with h4 | h4
     ·exact absurd (List.mem_map.2 ⟨(c, c0), h3, (by have := congrArg Prod.snd h4; exact this)⟩ : p.2 ∈ o.map (·.2)) hn.1
     ·exact ih hn.2 h3 h4
  exact key _ hn2 (lk_mem hc) (lk_mem hc')
 have hrowat : ∀ i j, (∃ d e zs, yij ys i j = .row d e zs) → i < ys.length ∧ j < (yc (ys.getD i .un)).length := fun i j ⟨d, e, zs, hy⟩ => by
  unfold yij at hy
  have hj : j < (yc (ys.getD i .un)).length := by
   rcases Nat.lt_or_ge j (yc (ys.getD i .un)).length with h' | h'
   ·exact h'
   ·have : (yc (ys.getD i .un)).getD j .un = .un := getD_un _ h'
    rw [this] at hy; cases hy
  refine ⟨?_, hj⟩
  rcases Nat.lt_or_ge i ys.length with h' | h'
  ·exact h'
  ·have : ys.getD i .un = .un := getD_un _ h'
   rw [this] at hy
   simp only [yc] at hy
   cases j <;> simp at hy
 have hexc : ∀ c c0, lk (og σ xs ys) c = some c0 → ∀ x : V, deep x = deep (σ c0) → exc x ((lk (og σ xs ys) c).bind cb) (match lk (og σ xs ys) c with | some c0 => Fc c0 | none => []) = exc (σ c0) (cb c0) (Fc c0) := fun c c0 hc x hx => by
  rw [hc]; simp only [Option.bind_some, exc, hx]
 have hdeep : ∀ c c0, lk (og σ xs ys) c = some c0 → deep (inSt ys c) = deep (σ c0) := fun c c0 hc => by
  rcases og_mem (lk_mem hc) with ⟨i, b, o, ys', hi, rfl, rfl, h2, h3⟩ | ⟨i, j, p, q, d, e, zs, hi, hj, rfl, rfl, h2, h3⟩
  ·have hp' := passL_get hp i hi
   rw [h2, h3] at hp'
   obtain ⟨b', xs', h4, hb, _⟩ := pass_blk hp'
   simp only [V.pt.injEq] at h4
   rw [← h4.1] at hb
   simp only [inSt, h3, hb, deep]
  ·have hpc := passCs_get (pass_cells (passL_get hp i hi)) j hj
   change passC C.P σ (xij σ xs ys i j) (yij ys i j) at hpc
   rw [h2, h3] at hpc
   simp only [passC] at hpc
   rw [hpc, inSt_r]
   change deep (rowAt (yij ys i j)) = _
   rw [h3]; rfl
 have hnone : ∀ c, lk (og σ xs ys) c = none → exc (inSt ys c) ((lk (og σ xs ys) c).bind cb) (match lk (og σ xs ys) c with | some c0 => Fc c0 | none => []) = [] := fun c hc => by
  rw [hc]; simp -implicitDefEqProofs -dsimp [exc]
 have hex : ∀ c x, x ∈ exc (inSt ys c) ((lk (og σ xs ys) c).bind cb) (match lk (og σ xs ys) c with | some c0 => Fc c0 | none => []) → ∃ c0, lk (og σ xs ys) c = some c0 ∧ x ∈ exc (σ c0) (cb c0) (Fc c0) := fun c x hx => by
  cases hc : lk (og σ xs ys) c with
  | none => rw [hnone c hc] at hx; cases hx
  | some c0 => rw [hexc c c0 hc _ (hdeep c c0 hc)] at hx; exact ⟨c0, rfl, hx⟩
 refine ⟨fun _ _ _ h => h, h1.frz, fun _ _ _ h => .inl h, rfl, fun i => ?_, fun c => ?_, fun c gb hc o => ?_, fun c c' hne x hx hx' => ?_, fun c => ?_, fun c x hx => ?_, rfl, rfl, rfl, Nat.le_refl _, fun _ _ _ => rfl, rfl, fun i g hi => ⟨?_, ?_, hi⟩, fun w' hw' => h.tab w' ⟨Nat.le_trans h.size hw'.1, hw'.2.1.trans h.os, hw'.2.2.1.trans h.tape, hw'.2.2.2.1.trans h.output, fun b hb hX => (hw'.2.2.2.2 b (Nat.lt_of_lt_of_le hb h.size) fun hm => ?_).trans (h.old b hb hX)⟩⟩
 ·
  by_cases hi : i < ys.length
  ·obtain ⟨F, hx⟩ := hval i hi
   have hp' := passL_get hp i hi
   simp only [inSt]
   rcases Classical.em (∃ cs, ys.getD i .un = .blk cs) with ⟨ys', hy⟩ | hnb
   ·simp only [hy]
    rw [hy] at hp'
    obtain ⟨b, xs', hxe, _, _⟩ := pass_blk hp'
    rw [hxe] at hx
    unfold R at hx
    obtain ⟨_, _, gb, h2, h3⟩ := hx
    refine ⟨[], ?_⟩
    simp only [entT]; unfold R
    refine ⟨rfl, rfl, gb, ?_, h3⟩
    simp only [inEnv]
    rw [lk_of hn1 (og_blk hi hxe hy)]; exact h2
   rcases Classical.em (∃ cs, ys.getD i .un = .ag cs) with ⟨ys', hy⟩ | hna
   ·simp only [hy]
    rw [hy] at hp'
    obtain ⟨xs', hxe, _⟩ := pass_ag hp'
    rw [hxe] at hx
    unfold R at hx
    obtain ⟨vs, h2, h3⟩ := hx
    have hl := hxl i hi
    rw [hxe, hy] at hl
    obtain ⟨F', h4⟩ := entCs_ok (E' := inEnv E (E.fz w cb (ln σ xs ys)).Φ σ xs ys) (i := i) (j0 := 0) hl (fun j F v hj hr h1 => by
     have := hcell i hi j F v (by rw [hy]; exact hj) (by unfold xij; rw [hxe, hy]; exact hr) h1
     unfold yij at this
     rw [hy] at this
     rw [Nat.zero_add]; exact this) h3
    refine ⟨F', ?_⟩
    simp only [entT]; unfold R
    exact ⟨vs, h2, h4⟩
   ·have hnb' : ∀ cs, ys.getD i .un ≠ .blk cs := fun cs e => hnb ⟨cs, e⟩
    have hna' : ∀ cs, ys.getD i .un ≠ .ag cs := fun cs e => hna ⟨cs, e⟩
    have hyc : yc (ys.getD i .un) = [ys.getD i .un] := by
     revert hnb' hna'
     generalize ys.getD i .un = y
     intro h1 h2
     cases y <;> first | rfl | exact absurd rfl (h1 _) | exact absurd rfl (h2 _)
    have hxx : xij σ xs ys i 0 = xs.getD i .un := by
     unfold xij
     revert hnb' hna'
     generalize ys.getD i .un = y
     intro h1 h2
     unfold xc
     split
     ·exact absurd rfl (h1 _)
     ·exact absurd rfl (h2 _)
     ·simp -implicitDefEqProofs -dsimp
    have hyy : yij ys i 0 = ys.getD i .un := by unfold yij; rw [hyc]; simp -implicitDefEqProofs -dsimp
    by_cases hu : ys.getD i .un = .un
    ·refine ⟨[], ?_⟩
     rw [hu]; simp only [entT]; unfold R; rfl
    ·have h1 := passC_one (pass_c hnb' hna' hp') hu hna' hx
     obtain ⟨F', h2⟩ := hcell i hi 0 F (us.getD i undef) (by rw [hyc]; simp -implicitDefEqProofs -dsimp) (by rw [hxx]; exact hx) h1
     refine ⟨F', ?_⟩
     have he : entT i (ys.getD i .un) = entC i 0 (yij ys i 0) := by
      rw [hyy]
      revert hnb' hna'
      generalize ys.getD i .un = y
      intro h1 h2
      cases y <;> first | rfl | exact absurd rfl (h1 _) | exact absurd rfl (h2 _)
     rw [he]; exact h2
  ·refine ⟨[], ?_⟩
   have : ys.getD i .un = .un := getD_un _ (Nat.le_of_not_lt hi)
   simp only [inSt, this, entT]; unfold R; rfl
 ·cases c with
  | t i => simp -implicitDefEqProofs -dsimp [COk, lk_none (o := og σ xs ys) (c := .t i) fun c0 hc0 => by rcases og_mem hc0 with ⟨_, _, _, _, _, h2, _⟩ | ⟨_, _, _, _, _, _, _, _, _, h2, _⟩ <;> cases h2]
  | b i =>
   rcases Classical.em (∃ cs, ys.getD i .un = .blk cs) with ⟨ys', hy⟩ | hnb
   ·have hi : i < ys.length := by
     rcases Nat.lt_or_ge i ys.length with h' | h'
     ·exact h'
     ·rw [getD_un _ h'] at hy; cases hy
    have hp' := passL_get hp i hi
    rw [hy] at hp'
    obtain ⟨b, xs', hxe, hb, hcs⟩ := pass_blk hp'
    have hl := lk_of hn1 (og_blk (σ := σ) hi hxe hy)
    have h2 := h.mem (.b b)
    rw [hb] at h2
    obtain ⟨arr, ty, k, h3, h4, h5, F, h6⟩ := h2
    simp only [inSt, hy, hl, Option.bind_some]
    obtain ⟨F', h7⟩ := entCs_ok (E' := inEnv E (E.fz w cb (ln σ xs ys)).Φ σ xs ys) (i := i) (j0 := 0) (passCs_len hcs) (fun j F v hj hr h1 => by
     have := hcell i hi j F v (by rw [hy]; exact hj) (by unfold xij; rw [hxe, hy]; simp only [xc, hb, blkV]; exact hr) h1
     unfold yij at this
     rw [hy] at this
     rw [Nat.zero_add]; exact this) h6
    exact ⟨arr, ty, k, h3, by simp only [inEnv, hl]; exact h4, h5, F', h7⟩
   ·have hl : lk (og σ xs ys) (.b i) = none := lk_none fun c0 hc0 => by
     rcases og_mem hc0 with ⟨i', b, o, ys', _, h2, _, _, h3⟩ | ⟨_, _, _, _, _, _, _, _, _, h2, _⟩
     ·obtain rfl := Comp.b.inj h2; exact hnb ⟨ys', h3⟩
     ·cases h2
    have hs : inSt ys (.b i) = .un := by
     simp only [inSt]
     split
     ·rename_i cs h2; exact absurd ⟨cs, h2⟩ hnb
     ·rfl
    rw [hs, hl]
    simp -implicitDefEqProofs -dsimp [COk, inEnv, hl]
  | r i j =>
   rw [inSt_r]
   change COk C.P _ w (.r i j) (rowAt (yij ys i j)) _ _
   rcases Classical.em (∃ d e zs, yij ys i j = .row d e zs) with ⟨d, e, zs, hy⟩ | hnr
   ·obtain ⟨hi, hj⟩ := hrowat i j ⟨d, e, zs, hy⟩
    have hpc := passCs_get (pass_cells (passL_get hp i hi)) j hj
    change passC C.P σ (xij σ xs ys i j) (yij ys i j) at hpc
    rw [hy] at hpc ⊢
    unfold passC at hpc
    dsimp only at hpc
    split at hpc
    ·rename_i p q hxe
     have hl := lk_of hn1 (og_row hi hj hxe hy)
     have h2 := h.mem (.r p q)
     rw [hpc] at h2
     obtain ⟨u, vs, k, h3, h4, h5, h6, h7, h8, h9⟩ := h2
     simp only [rowAt, hl, Option.bind_some]
     exact ⟨u, vs, k, by simp only [inEnv, hy, rowAt, hl]; exact h3, h4, h5, h6, Els.free (E := E.dat) rfl _ (fun b _ o u hu => hΦ b o u hu) h7, h8, h9⟩
    ·rename_i hxe
     have hl : lk (og σ xs ys) (.r i j) = none := lk_none fun c0 hc0 => by
      rcases og_mem hc0 with ⟨_, _, _, _, _, h2, _⟩ | ⟨i', j', p, q, _, _, _, _, _, h2, _, h3, _⟩
      ·cases h2
      ·obtain ⟨rfl, rfl⟩ : i = i' ∧ j = j' := by simpa using h2
       rw [hxe] at h3; cases h3
     obtain ⟨rfl, hT⟩ := hpc
     split at hT
     ·rename_i T hTe
      simp only [rowAt, hl, Option.bind_none]
      exact ⟨_, [], T.sz, by simp only [inEnv, hy, rowAt, hl], (tyd_ok hTe).info, hT, World.ownsRow_nil w 0 e _, by unfold Els; exact ⟨rfl, rfl⟩, rfl, fun _ b hb => by cases hb⟩
     ·exact hT.elim
    ·exact hpc.elim
   ·have hr : rowAt (yij ys i j) = .un := by
     cases hy : yij ys i j <;> first | rfl | exact absurd ⟨_, _, _, hy⟩ hnr
    have hl : lk (og σ xs ys) (.r i j) = none := lk_none fun c0 hc0 => by
     rcases og_mem hc0 with ⟨_, _, _, _, _, h2, _⟩ | ⟨i', j', p, q, d, e, zs, _, _, h2, _, _, h3⟩
     ·cases h2
     ·obtain ⟨rfl, rfl⟩ : i = i' ∧ j = j' := by simpa using h2
      exact hnr ⟨d, e, zs, h3⟩
    rw [hr, hl]
    simp -implicitDefEqProofs -dsimp [COk, inEnv, hr]
 ·cases hc0 : lk (og σ xs ys) c with
  | none => rw [hc0] at hc; cases hc
  | some c0 =>
   rw [hc0] at hc
   simp only [Option.bind_some] at hc
   show (E.fz w cb (ln σ xs ys)).Φ gb o = none
   simp only [Env.fz]
   split
   ·rename_i hany
    obtain ⟨c', hc', h6⟩ := any_cb.1 hany
    exact absurd (mem_exc h6) (h.dis c0 c' (fun e => hln c' hc' (e ▸ hto c c0 hc0)) gb (mem_exc hc))
   ·exact h.out c0 gb hc o
 ·obtain ⟨c0, h2, h3⟩ := hex c x hx
  obtain ⟨c0', h4, h5⟩ := hex c' x hx'
  exact h.dis c0 c0' (fun e => hne (hinj c c' c0 h2 (e ▸ h4))) x h3 h5
 ·cases hc : lk (og σ xs ys) c with
  | none => have := hnone c hc; rw [hc] at this; rw [this]; exact List.nodup_nil
  | some c0 => have := hexc c c0 hc _ (hdeep c c0 hc); rw [hc] at this; rw [this]; exact h.nod c0
 ·obtain ⟨c0, h2, h3⟩ := hex c x hx
  exact ⟨.inr (List.mem_flatMap.2 ⟨c0, hto c c0 h2, h3⟩), (h.new c0 x h3).2⟩
 ·simp only [inEnv] at hi
  cases hl : lk (og σ xs ys) (.b i) with
  | none => rw [hl] at hi; cases hi
  | some c0 =>
   rcases og_mem (lk_mem hl) with ⟨i', b, o, ys', hi', h2, _, _, h3⟩ | ⟨_, _, _, _, _, _, _, _, _, h2, _⟩
   ·obtain rfl := Comp.b.inj h2; exact hi'
   ·cases h2
 ·simp only [inEnv] at hi
  cases hl : lk (og σ xs ys) (.b i) with
  | none => rw [hl] at hi; cases hi
  | some c0 =>
   rcases og_mem (lk_mem hl) with ⟨i', b, o, ys', hi', h2, _, _, h3⟩ | ⟨_, _, _, _, _, _, _, _, _, h2, _⟩
   ·obtain rfl := Comp.b.inj h2
    simp only [inSt, h3]; simp -implicitDefEqProofs -dsimp
   ·cases h2
 ·simp only [inX, List.mem_flatMap] at hm
  obtain ⟨c, _, hc⟩ := hm
  rcases (h.new c b hc).1 with h1 | h1
  ·omega
  ·exact hX h1
end
end Go.Proofs.YtlfblkekbcfjpaaGreatDoor
namespace Go.Proofs.YtlfblkekbcfjpaaGreatDoor
open Go.RowKit
theorem upds_lk : ∀ (ws : List (Comp × V)) (σ : St) (c : Comp), (ws.map (·.1)).Nodup → upds σ ws c = (lk ws c).getD (σ c)
 | [], _, _, _ => rfl
 | p :: ws, σ, c, hn => by
  simp only [List.map_cons, List.nodup_cons] at hn
  simp only [upds]
  rw [upds_lk ws _ c hn.2]
  unfold lk
  rw [List.find?_cons]
  by_cases hp : p.1 = c
  ·simp only [hp, decide_true, Option.map_some, Option.getD_some]
   have : ws.find? (fun p => decide (p.1 = c)) = none := List.find?_eq_none.2 fun q hq => by
    simp only [decide_eq_true_eq]
    exact fun e => hn.1 (List.mem_map.2 ⟨q, hq, e.trans hp.symm⟩)
   rw [this]; simp -implicitDefEqProofs -dsimp [← hp, upd_self]
  ·simp only [hp, decide_false]
   rw [upd_ne _ _ (fun e => hp e.symm)]
section
variable {C : Ctx} {E : Env} {cb : Comp → Option Nat} {Fc : Comp → List Nat} {σ : St} {w : World} {a : Act} {xs ys outs rs : List V}
theorem tri_mem {d : Nat} {c c' : Comp} {x : V} (h : (c, c', x) ∈ tri d xs outs rs) :
  (∃ i b o cs, i < outs.length ∧ c = .b b ∧ c' = .b i ∧ xs.getD i .un = .pt b o ∧ outs.getD i .un = .blk cs ∧ x = .blk (outCs d (10000 + 100 * i) cs)) ∨
  (∃ i j k a e zs, c = .r d (k + j) ∧ c' = .r i j ∧ x = .row a e zs ∧ yij (outs ++ rs) i j = .row a e zs) := by
 unfold tri at h
 rcases List.mem_append.1 h with h | h
 ·obtain ⟨i, hi, h⟩ := mem_ix.1 h
  unfold triB at h
  split at h
  ·rename_i b o cs h1 h2
   rcases List.mem_cons.1 h with h | h
   ·simp only [Prod.mk.injEq] at h
    exact .inl ⟨i, b, o, cs, hi, h.1, h.2.1, h1, h2, h.2.2⟩
   ·obtain ⟨j, hj, h⟩ := mem_ix.1 h
    unfold triR at h
    split at h
    ·rename_i a e zs h3
     simp only [List.mem_singleton, Prod.mk.injEq] at h
     refine .inr ⟨i, j, 10000 + 100 * i, a, e, zs, h.1, h.2.1, h.2.2, ?_⟩
     have : (outs ++ rs).getD i .un = .blk cs := by
      rw [← h2]; simp only [List.getD, List.getElem?_append_left hi]
     unfold yij; rw [this]; exact h3
    ·cases h
  ·cases h
 ·obtain ⟨q, hq, h⟩ := mem_ix.1 h
  obtain ⟨j, hj, h⟩ := mem_ix.1 h
  unfold triR at h
  split at h
  ·rename_i a e zs h3
   simp only [List.mem_singleton, Prod.mk.injEq] at h
   refine .inr ⟨outs.length + q, j, 100 * q, a, e, zs, h.1, h.2.1, h.2.2, ?_⟩
   have : (outs ++ rs).getD (outs.length + q) .un = rs.getD q .un := by
    simp only [List.getD, List.getElem?_append_right (Nat.le_add_right _ _), Nat.add_sub_cancel_left]
   unfold yij; rw [this]; exact h3
  ·cases h
theorem tri_blk {d i b o : Nat} {cs : List V} (hi : i < outs.length) (h1 : xs.getD i .un = .pt b o) (h2 : outs.getD i .un = .blk cs) : (Comp.b b, Comp.b i, V.blk (outCs d (10000 + 100 * i) cs)) ∈ tri d xs outs rs :=
 List.mem_append_left _ (mem_ix.2 ⟨i, hi, by rw [h1, h2]; simp -implicitDefEqProofs -dsimp [triB]⟩)
theorem tri_blkr {d i b o j : Nat} {cs : List V} {a : Bool} {e : TypeId} {zs : List V} (hi : i < outs.length) (h1 : xs.getD i .un = .pt b o) (h2 : outs.getD i .un = .blk cs) (hj : j < cs.length) (h3 : cs.getD j .un = .row a e zs) :
  (Comp.r d (10000 + 100 * i + j), Comp.r i j, V.row a e zs) ∈ tri d xs outs rs :=
 List.mem_append_left _ (mem_ix.2 ⟨i, hi, by rw [h1, h2]; exact List.mem_cons_of_mem _ (mem_ix.2 ⟨j, hj, by rw [h3]; simp -implicitDefEqProofs -dsimp [triR]⟩)⟩)
theorem tri_res {d q j : Nat} {a : Bool} {e : TypeId} {zs : List V} (hq : q < rs.length) (hj : j < (yc (rs.getD q .un)).length) (h3 : (yc (rs.getD q .un)).getD j .un = .row a e zs) :
  (Comp.r d (100 * q + j), Comp.r (outs.length + q) j, V.row a e zs) ∈ tri d xs outs rs :=
 List.mem_append_right _ (mem_ix.2 ⟨q, hq, mem_ix.2 ⟨j, hj, by rw [h3]; simp -implicitDefEqProofs -dsimp [triR]⟩⟩)
def outC (d k : Nat) : V → V
 | .row .. => .own d k
 | x => x
theorem outCs_cons (d k : Nat) (x : V) (cs : List V) : outCs d k (x :: cs) = outC d k x :: outCs d (k + 1) cs := by cases x <;> simp -implicitDefEqProofs -dsimp [outCs, outC]
theorem outC_ok {E' En : Env} {i j d k : Nat} {x : V} {F : List Nat} {v : Value} (hl : En.loc = true) (hrow : ∀ a e zs, x = .row a e zs → En.ρ d k = E'.ρ i j) (hok : okC x = true)
  (hΦ : ownC x = true ∨ ∀ b o u, E'.Φ b o = some u → En.Φ b o = some u) (hx : R (entC i j x) E' F v) : ∃ F', R (outC d k x) En F' v := by
 have hd : dat x = true → entC i j x = x → outC d k x = x → ∃ F', R (outC d k x) En F' v := fun h1 h2 h3 => by
  rw [h2] at hx
  rw [h3]
  rcases hΦ with h | h
  ·cases x <;> simp -implicitDefEqProofs -dsimp [ownC] at h <;> first | (unfold R at hx; exact ⟨[], by unfold R; first | exact hx | exact ⟨rfl, hx.2⟩ | rfl⟩) | cases h1
  ·exact ⟨F, R.data h1 (fun b _ o u hu => h b o u hu) hx⟩
 cases x with
 | row a e zs =>
  simp only [entC] at hx
  unfold R at hx
  obtain ⟨_, _, h1, h2⟩ := hx
  exact ⟨[], by simp only [outC]; unfold R; exact ⟨hl, rfl, (hrow a e zs rfl).trans h1, h2⟩⟩
 | _ => first | exact hd hok rfl rfl | (simp -implicitDefEqProofs -dsimp [okC, dat] at hok)
theorem outCs_ok {E' En : Env} {i d k : Nat} (hl : En.loc = true) : ∀ {cs : List V} {j0 : Nat} {F : List Nat} {vs : List Value}, (∀ j a e zs, j < cs.length → cs.getD j .un = .row a e zs → En.ρ d (k + (j0 + j)) = E'.ρ i (j0 + j)) → cs.all okC = true →
  (cs.all ownC = true ∨ ∀ b o u, E'.Φ b o = some u → En.Φ b o = some u) → Rs (entCs i j0 cs) E' F vs → ∃ F', Rs (outCs d (k + j0) cs) En F' vs
 | [], _, _, _, _, _, _, hx => by
  simp only [entCs] at hx
  unfold Rs at hx
  obtain ⟨_, rfl⟩ := hx
  exact ⟨[], by simp only [outCs]; unfold Rs; exact ⟨rfl, rfl⟩⟩
 | x :: cs, j0, _, _, hr, hok, hΦ, hx => by
  rw [entCs_cons] at hx
  unfold Rs at hx
  obtain ⟨F1, F2, v, ws, _, rfl, h3, h4, h5⟩ := hx
  simp only [List.all_cons, Bool.and_eq_true] at hok hΦ
  obtain ⟨G1, h6⟩ := outC_ok (d := d) (k := k + j0) hl (fun a e zs hxe => by have := hr 0 a e zs (by simp -implicitDefEqProofs -dsimp) (by simpa using hxe); simpa using this) hok.1 (hΦ.imp_left (·.1)) h3
  obtain ⟨G2, h7⟩ := outCs_ok (k := k) hl (j0 := j0 + 1) (fun j a e zs hj hc => by
   have := hr (j + 1) a e zs (by simpa using hj) (by simpa using hc)
   rw [show j0 + 1 + j = j0 + (j + 1) by omega]; exact this) hok.2 (hΦ.imp_left (·.2)) h5
  rw [outCs_cons]
  exact ⟨G1 ++ G2, by unfold Rs; exact ⟨G1, G2, v, ws, rfl, rfl, h6, h4, by rw [show k + j0 + 1 = k + (j0 + 1) by omega]; exact h7⟩⟩
theorem outT_ok {E' En : Env} {i d k : Nat} {r : V} {F : List Nat} {v : Value} (hl : En.loc = true) (hrow : ∀ j a e zs, j < (yc r).length → (yc r).getD j .un = .row a e zs → En.ρ d (k + j) = E'.ρ i j) (hok : okR r = true)
  (hΦ : ownV r = true ∨ ∀ b o u, E'.Φ b o = some u → En.Φ b o = some u) (hx : R (entT i r) E' F v) : ∃ F', R (outT d k r) En F' v := by
 have one : ∀ x : V, yc x = [x] → entT i x = entC i 0 x → outT d k x = outC d k x → okR x = okC x → x = r → ∃ F', R (outT d k r) En F' v := fun x h1 h2 h3 h4 h5 => by
  subst h5
  rw [h3]
  rw [h2] at hx
  exact outC_ok hl (fun a e zs hxe => by have := hrow 0 a e zs (by rw [h1]; simp -implicitDefEqProofs -dsimp) (by rw [h1]; simpa using hxe); simpa using this) (h4 ▸ hok) (hΦ.imp_left fun h => by unfold ownV at h; rw [h1] at h; simpa using h) hx
 cases r with
 | ag cs =>
  simp only [entT] at hx
  unfold R at hx
  obtain ⟨vs, rfl, h1⟩ := hx
  obtain ⟨F', h2⟩ := outCs_ok (E' := E') (k := k) hl (j0 := 0) (fun j a e zs hj hc => by rw [Nat.zero_add]; exact hrow j a e zs hj hc) hok hΦ h1
  exact ⟨F', by simp only [outT]; unfold R; exact ⟨vs, rfl, h2⟩⟩
 | blk cs => simp -implicitDefEqProofs -dsimp [okR, okC, dat] at hok
 | _ => exact one _ rfl rfl rfl rfl rfl
end
end Go.Proofs.YtlfblkekbcfjpaaGreatDoor
