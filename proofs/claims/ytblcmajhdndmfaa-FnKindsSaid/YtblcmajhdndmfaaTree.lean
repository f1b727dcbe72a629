/- What the program says of trees, as plain functions: places, values at paths, all paths. No program in sight. -/
import Derived.Test.YtblcmajhdndmfaaVal
namespace Go.Proofs.Ytblcmajhdndmfaa
open Go.RowKit
set_option linter.unusedVariables false
set_option maxRecDepth 100000

/-- The place of the element that a step leads to; -1: none. -/
def placeK (v : GVal) (s : GStep) : Int := if v.kind = 10 then (if s.name then 2 * s.at_ else 2 * s.at_ + 1) else s.at_
def placeI (v : GVal) (s : GStep) : Int := if 0 ≤ s.at_ ∧ (v.kind = 10 ∨ s.name = false) ∧ placeK v s < v.l.length then placeK v s else -1
theorem placeK_le {v : GVal} {s : GStep} (h : 0 ≤ s.at_) : s.at_ ≤ placeK v s := by
  unfold placeK
  split
  · split <;> omega
  · omega
theorem placeI_range (v : GVal) (s : GStep) : placeI v s = -1 ∨ ∃ i : Nat, placeI v s = i ∧ i < v.l.length := by
  by_cases h : 0 ≤ s.at_ ∧ (v.kind = 10 ∨ s.name = false) ∧ placeK v s < v.l.length
  · obtain ⟨h1, h2, h3⟩ := h
    have := placeK_le (v := v) h1
    refine .inr ⟨(placeK v s).toNat, ?_, by omega⟩
    unfold placeI
    rw [if_pos ⟨h1, h2, h3⟩]
    omega
  · left; unfold placeI; rw [if_neg h]
/-- The value that a step leads to. -/
def stepG (v : GVal) (s : GStep) : Option GVal := v.l[(placeI v s).toNat]?.bind fun x => if placeI v s = -1 then none else some x
theorem stepG_none {v : GVal} {s : GStep} (h : placeI v s = -1) : stepG v s = none := by
  unfold stepG; rw [h]; cases v.l[(-1 : Int).toNat]? <;> simp
theorem stepG_some {v : GVal} {s : GStep} {i : Nat} (h : placeI v s = i) (hi : i < v.l.length) : stepG v s = some v.l[i] := by
  unfold stepG
  rw [h]
  have : ¬ ((i : Int) = -1) := by omega
  simp [hi, this]
/-- The value at a path. -/
def atG (v : GVal) : List GStep → Option GVal
  | [] => some v
  | s :: p => (stepG v s).bind fun x => atG x p
theorem atG_snoc (s : GStep) : ∀ (p : List GStep) (v : GVal), atG v (p ++ [s]) = (atG v p).bind fun x => stepG x s
  | [], v => by simp [atG]
  | t :: p, v => by
    simp only [List.cons_append, atG]
    cases stepG v t with
    | none => rfl
    | some x => simp [atG_snoc s p x]
theorem atG_none_more : ∀ (p q : List GStep) (v : GVal), atG v p = none → atG v (p ++ q) = none
  | [], q, v, h => by simp [atG] at h
  | t :: p, q, v, h => by
    simp only [List.cons_append, atG] at h ⊢
    cases hs : stepG v t with
    | none => rfl
    | some x => rw [hs] at h; simpa using atG_none_more p q x (by simpa using h)

/-- The step to an element. -/
def stepToG (v : GVal) (i : Nat) : GStep := if v.kind = 10 then ⟨((i / 2 : Nat) : Int), decide (i % 2 = 0)⟩ else ⟨i, false⟩
mutual
/-- The paths of all values, in their order; p: the path that leads here. -/
def pathsG (p : List GStep) : GVal → List (List GStep)
  | ⟨k, n, x, s, l⟩ => p :: pathsL p ⟨k, n, x, s, []⟩ 0 l
def pathsL (p : List GStep) (v : GVal) (i : Nat) : List GVal → List (List GStep)
  | [] => []
  | a :: l => pathsG (p ++ [stepToG v i]) a ++ pathsL p v (i + 1) l
end
theorem stepToG_kind {v v' : GVal} (h : v.kind = v'.kind) (i : Nat) : stepToG v i = stepToG v' i := by unfold stepToG; rw [h]
theorem pathsL_kind {v v' : GVal} (h : v.kind = v'.kind) (p : List GStep) : ∀ (l : List GVal) (i : Nat), pathsL p v i l = pathsL p v' i l
  | [], i => by simp [pathsL]
  | a :: l, i => by simp only [pathsL]; rw [stepToG_kind h, pathsL_kind h p l (i + 1)]
theorem pathsG_eq (p : List GStep) (v : GVal) : pathsG p v = p :: pathsL p v 0 v.l := by
  obtain ⟨k, n, x, s, l⟩ := v
  rw [pathsG]
  congr 1
  exact pathsL_kind (v := ⟨k, n, x, s, []⟩) (v' := ⟨k, n, x, s, l⟩) rfl p l 0
theorem pathsL_snoc (p : List GStep) (v : GVal) : ∀ (l : List GVal) (i : Nat) (a : GVal), pathsL p v i (l ++ [a]) = pathsL p v i l ++ pathsG (p ++ [stepToG v (i + l.length)]) a
  | [], i, a => by simp [pathsL]
  | b :: l, i, a => by
    simp only [List.cons_append, pathsL, pathsL_snoc p v l (i + 1) a, List.append_assoc, List.length_cons]
    rw [show i + 1 + l.length = i + (l.length + 1) by omega]
/-- The paths that have come so far, ahead of element k. -/
def pathsTo (p : List GStep) (v : GVal) (k : Nat) : List (List GStep) := p :: pathsL p v 0 (v.l.take k)
theorem pathsTo_zero (p : List GStep) (v : GVal) : pathsTo p v 0 = [p] := by simp [pathsTo, pathsL]
theorem pathsTo_succ (p : List GStep) (v : GVal) {k : Nat} (h : k < v.l.length) : pathsTo p v (k + 1) = pathsTo p v k ++ pathsG (p ++ [stepToG v k]) v.l[k] := by
  unfold pathsTo
  rw [List.take_succ_eq_append_getElem h, pathsL_snoc, List.length_take, Nat.min_eq_left (by omega), Nat.zero_add, List.cons_append]
theorem pathsTo_all (p : List GStep) (v : GVal) : pathsTo p v v.l.length = pathsG p v := by rw [pathsTo, List.take_length, pathsG_eq]

mutual
theorem pathsG_len : ∀ (v : GVal) (p : List GStep), (pathsG p v).length ≤ 1 + bulkVal v
  | ⟨k, n, x, s, l⟩, p => by
    rw [pathsG, bulkVal, List.length_cons]
    have := pathsL_len l ⟨k, n, x, s, []⟩ p 0
    omega
theorem pathsL_len : ∀ (l : List GVal) (v : GVal) (p : List GStep) (i : Nat), (pathsL p v i l).length ≤ bulkVals l
  | [], v, p, i => by simp [pathsL]
  | a :: l, v, p, i => by
    rw [pathsL, bulkVals, List.length_append]
    have := pathsG_len a (p ++ [stepToG v i])
    have := pathsL_len l v p (i + 1)
    omega
end
theorem pathsTo_len (p : List GStep) (v : GVal) (k : Nat) : (pathsTo p v k).length ≤ 1 + bulkVal v := by
  unfold pathsTo
  rw [List.length_cons]
  have h1 := pathsL_len (v.l.take k) v p 0
  have h2 : bulkVals (v.l.take k) ≤ bulkVals v.l := by
    have : ∀ (l l' : List GVal), bulkVals (l ++ l') = bulkVals l + bulkVals l' := fun l l' => by rw [bulkVals_eq, bulkVals_eq, bulkVals_eq]; simp; omega
    have := this (v.l.take k) (v.l.drop k)
    rw [List.take_append_drop] at this
    omega
  rw [bulkVal_eq]
  omega
theorem bulkVals_append (l l' : List GVal) : bulkVals (l ++ l') = bulkVals l + bulkVals l' := by rw [bulkVals_eq, bulkVals_eq, bulkVals_eq]; simp; omega
theorem pathsTo_budget (p : List GStep) (v : GVal) {k : Nat} (h : k < v.l.length) : (pathsTo p v k).length + bulkVal v.l[k] ≤ bulkVal v := by
  unfold pathsTo
  rw [List.length_cons]
  have h1 := pathsL_len (v.l.take k) v p 0
  have h2 := bulkVals_append (v.l.take (k + 1)) (v.l.drop (k + 1))
  rw [List.take_append_drop, List.take_succ_eq_append_getElem h, bulkVals_append] at h2
  have h3 : bulkVals [v.l[k]] = 1 + bulkVal v.l[k] := by rw [bulkVals_eq]; simp
  have h4 := bulkVal_eq v
  omega
theorem bulk_at {v : GVal} {i : Nat} (hi : i < v.l.length) : bulkVal v.l[i] + 1 ≤ bulkVal v := by
  have := le_sum_at bulkVal v.l hi
  have := bulkVal_eq v
  have := bulkVals_eq v.l
  omega
theorem bulk_len (v : GVal) : v.l.length ≤ bulkVal v := by rw [bulkVal_eq, bulkVals_eq]; omega
theorem bulk_step {v x : GVal} {s : GStep} (h : stepG v s = some x) : bulkVal x ≤ bulkVal v := by
  rcases placeI_range v s with h1 | ⟨i, h1, h2⟩
  · rw [stepG_none h1] at h; cases h
  · rw [stepG_some h1 h2] at h; injection h with h; subst h
    have := bulk_at h2; omega
theorem bulk_atG : ∀ (p : List GStep) {v x : GVal}, atG v p = some x → bulkVal x ≤ bulkVal v
  | [], v, x, h => by simp [atG] at h; subst h; exact Nat.le_refl _
  | s :: p, v, x, h => by
    simp only [atG] at h
    cases hs : stepG v s with
    | none => rw [hs] at h; cases h
    | some y => rw [hs] at h; exact Nat.le_trans (bulk_atG p (by simpa using h)) (bulk_step hs)

mutual
/-- No path is longer than the tree is great. -/
theorem pathsG_deep : ∀ (v : GVal) (p q : List GStep), q ∈ pathsG p v → q.length ≤ p.length + bulkVal v
  | ⟨k, n, x, s, l⟩, p, q, h => by
    rw [pathsG] at h
    rw [bulkVal]
    rcases List.mem_cons.1 h with rfl | h
    · omega
    · have := pathsL_deep l ⟨k, n, x, s, []⟩ p 0 q h; omega
theorem pathsL_deep : ∀ (l : List GVal) (v : GVal) (p : List GStep) (i : Nat) (q : List GStep), q ∈ pathsL p v i l → q.length ≤ p.length + bulkVals l
  | [], v, p, i, q, h => by simp [pathsL] at h
  | a :: l, v, p, i, q, h => by
    rw [pathsL] at h
    rw [bulkVals]
    rcases List.mem_append.1 h with h | h
    · have := pathsG_deep a _ q h; simp at this; omega
    · have := pathsL_deep l v p (i + 1) q h; omega
end

theorem placeI_stepTo (v : GVal) {i : Nat} (hi : i < v.l.length) : placeI v (stepToG v i) = i := by
  unfold placeI placeK stepToG
  by_cases h : v.kind = 10
  · simp only [h, if_true, true_or, true_and]
    by_cases h2 : i % 2 = 0
    · simp only [h2, decide_true, if_true]; rw [if_pos (by omega)]; omega
    · simp only [h2, decide_false]; rw [if_pos (by simp; omega)]; simp; omega
  · simp only [h, if_false, false_or]
    rw [if_pos (by simp; omega)]
theorem mem_pathsTo (p : List GStep) (v : GVal) : ∀ (k : Nat) (hk : k ≤ v.l.length) (q : List GStep), q ∈ pathsTo p v k → q = p ∨ ∃ i, ∃ hi : i < v.l.length, q ∈ pathsG (p ++ [stepToG v i]) v.l[i]
  | 0, _, q, h => by rw [pathsTo_zero] at h; exact .inl (by simpa using h)
  | k + 1, hk, q, h => by
    rw [pathsTo_succ p v (by omega)] at h
    rcases List.mem_append.1 h with h | h
    · exact mem_pathsTo p v k (by omega) q h
    · exact .inr ⟨k, by omega, h⟩
/-- Every path of a tree leads to a value. -/
theorem pathsG_at (v : GVal) : ∀ (p q : List GStep), q ∈ pathsG p v → ∃ r x, q = p ++ r ∧ atG v r = some x := by
  refine GVal.ind (p := fun v => ∀ (p q : List GStep), q ∈ pathsG p v → ∃ r x, q = p ++ r ∧ atG v r = some x) (fun v IH p q h => ?_) v
  rw [← pathsTo_all] at h
  rcases mem_pathsTo p v _ (Nat.le_refl _) q h with rfl | ⟨i, hi, h⟩
  · exact ⟨[], v, by simp, rfl⟩
  · obtain ⟨r, x, hq, hr⟩ := IH i hi _ _ h
    refine ⟨stepToG v i :: r, x, by rw [hq]; simp, ?_⟩
    rw [atG, stepG_some (placeI_stepTo v hi) hi]
    exact hr
theorem allPaths_at {v : GVal} {q : List GStep} (h : q ∈ pathsG [] v) : ∃ x, atG v q = some x := by
  obtain ⟨r, x, rfl, hr⟩ := pathsG_at v [] q h
  exact ⟨x, by simpa using hr⟩

/-- What the kind of the value at a path is; of none: 0. -/
def kindAt (v : GVal) (p : List GStep) : Int := match atG v p with | some x => x.kind | none => 0
def findG (v : GVal) (kind : Int) : List (List GStep) := (pathsG [] v).filter fun p => kindAt v p = kind
end Go.Proofs.Ytblcmajhdndmfaa
