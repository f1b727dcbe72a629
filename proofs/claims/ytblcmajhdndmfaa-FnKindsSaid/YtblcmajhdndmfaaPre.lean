/- A tree's values in their order, and a function called at each. No program in sight. -/
import Derived.Test.YtblcmajhdndmfaaTree
namespace Go.Proofs.Ytblcmajhdndmfaa
open Go.RowKit
set_option linter.unusedVariables false
set_option maxRecDepth 100000

mutual
def preG : GVal → List GVal
  | ⟨k, n, x, s, l⟩ => ⟨k, n, x, s, l⟩ :: preL l
def preL : List GVal → List GVal
  | [] => []
  | a :: l => preG a ++ preL l
end
theorem preG_eq (v : GVal) : preG v = v :: preL v.l := by cases v; rw [preG]
theorem preL_snoc (a : GVal) : ∀ (l : List GVal), preL (l ++ [a]) = preL l ++ preG a
  | [] => by simp [preL]
  | b :: l => by simp [preL, preL_snoc a l]
theorem paths_pre (v : GVal) : ∀ (u : GVal) (p : List GStep), atG u p = some v → (pathsG p v).map (atG u) = (preG v).map some := by
  refine GVal.ind (p := fun v => ∀ (u : GVal) (p : List GStep), atG u p = some v → (pathsG p v).map (atG u) = (preG v).map some) (fun v IH u p h => ?_) v
  have key : ∀ k, k ≤ v.l.length → (pathsTo p v k).map (atG u) = (v :: preL (v.l.take k)).map some := by
    intro k
    induction k with
    | zero => intro _; rw [pathsTo_zero]; simp [h, preL]
    | succ k ih =>
      intro hk
      have hk' : k < v.l.length := by omega
      rw [pathsTo_succ p v hk', List.map_append, ih (by omega), List.take_succ_eq_append_getElem hk', preL_snoc]
      have h2 : atG u (p ++ [stepToG v k]) = some v.l[k] := by
        rw [atG_snoc, h]
        exact stepG_some (placeI_stepTo v hk') hk'
      rw [IH k hk' u _ h2]
      simp
  rw [← pathsTo_all, key _ (Nat.le_refl _), List.take_length, preG_eq]
mutual
theorem preG_len : ∀ (v : GVal), (preG v).length ≤ 1 + bulkVal v
  | ⟨k, n, x, s, l⟩ => by rw [preG, bulkVal, List.length_cons]; have := preL_len l; omega
theorem preL_len : ∀ (l : List GVal), (preL l).length ≤ bulkVals l
  | [] => by simp [preL]
  | a :: l => by rw [preL, bulkVals, List.length_append]; have := preG_len a; have := preL_len l; omega
end

section
variable {σ : Type} (st : σ → GVal → σ × Bool)
mutual
/-- A function with a state, called at a tree's values in their order till it says no. -/
def evG : GVal → σ → σ × Bool
  | ⟨k, n, x, t, l⟩, s => match st s ⟨k, n, x, t, l⟩ with
    | (s1, true) => evL l s1
    | (s1, false) => (s1, false)
def evL : List GVal → σ → σ × Bool
  | [], s => (s, true)
  | a :: l, s => match evG a s with
    | (s1, true) => evL l s1
    | (s1, false) => (s1, false)
end
theorem evG_true {v : GVal} {s s1 : σ} (h : st s v = (s1, true)) : evG st v s = evL st v.l s1 := by cases v; rw [evG, h]
theorem evG_false {v : GVal} {s s1 : σ} (h : st s v = (s1, false)) : evG st v s = (s1, false) := by cases v; rw [evG, h]
theorem evL_append : ∀ (l l' : List GVal) (s : σ), evL st (l ++ l') s = match evL st l s with
    | (s1, true) => evL st l' s1
    | (s1, false) => (s1, false)
  | [], l', s => by simp [evL]
  | a :: l, l', s => by
    rw [List.cons_append, evL, evL]
    rcases evG st a s with ⟨s1, b⟩
    cases b
    · rfl
    · exact evL_append l l' s1
theorem evL_snoc_true {l : List GVal} {a : GVal} {s s1 s2 : σ} (h : evL st l s = (s1, true)) (h2 : evG st a s1 = (s2, true)) : evL st (l ++ [a]) s = (s2, true) := by
  rw [evL_append, h]; simp only; rw [evL, h2]; simp [evL]
theorem evL_stop {l : List GVal} {k : Nat} {s s1 s2 : σ} (hk : k < l.length) (h : evL st (l.take k) s = (s1, true)) (h2 : evG st l[k] s1 = (s2, false)) : evL st l s = (s2, false) := by
  have e : l = l.take k ++ (l[k] :: l.drop (k + 1)) := by rw [← List.drop_eq_getElem_cons hk, List.take_append_drop]
  rw [e, evL_append, h]; simp only; rw [evL, h2]
/-- A function that never says no. -/
theorem ev_all {f : σ → GVal → σ} (hst : ∀ s v, st s v = (f s v, true)) (v : GVal) : ∀ s, evG st v s = ((preG v).foldl f s, true) := by
  refine GVal.ind (p := fun v => ∀ s, evG st v s = ((preG v).foldl f s, true)) (fun v IH s => ?_) v
  rw [evG_true st (hst s v), preG_eq, List.foldl_cons]
  have key : ∀ (l : List GVal), (∀ i (hi : i < l.length), ∀ s, evG st l[i] s = ((preG l[i]).foldl f s, true)) → ∀ s, evL st l s = ((preL l).foldl f s, true) := by
    intro l
    induction l with
    | nil => intro _ s; simp [evL, preL]
    | cons a l ih =>
      intro h s
      have h0 := h 0 (by simp) s
      simp only [List.getElem_cons_zero] at h0
      rw [evL, h0, preL, List.foldl_append]
      exact ih (fun i hi s => h (i + 1) (by simpa using hi) s) _
  exact key v.l IH _
theorem evL_bud_of {B : σ → Nat} : ∀ (l : List GVal), (∀ i (hi : i < l.length), ∀ s, B (evG st l[i] s).1 ≤ B s + 1 + bulkVal l[i]) → ∀ s, B (evL st l s).1 ≤ B s + bulkVals l
  | [], _, s => by simp [evL]
  | a :: l, h, s => by
    have h0 := h 0 (by simp) s
    simp only [List.getElem_cons_zero] at h0
    have h1 := evL_bud_of (B := B) l (fun i hi s => h (i + 1) (by simpa using hi) s)
    rw [evL, bulkVals]
    revert h0
    rcases evG st a s with ⟨s1, b⟩
    intro h0
    cases b
    · simp only at h0 ⊢; omega
    · simp only at h0 ⊢; have := h1 s1; omega
/-- How much a state grows by. -/
theorem evG_bud {B : σ → Nat} (hb : ∀ s x, B (st s x).1 ≤ B s + 1) (v : GVal) : ∀ s, B (evG st v s).1 ≤ B s + 1 + bulkVal v := by
  refine GVal.ind (p := fun v => ∀ s, B (evG st v s).1 ≤ B s + 1 + bulkVal v) (fun v IH s => ?_) v
  have h0 := hb s v
  rcases hq : st s v with ⟨s1, b⟩
  rw [hq] at h0
  simp only at h0
  cases b
  · rw [evG_false st hq]; simp only; omega
  · rw [evG_true st hq]
    have h1 := evL_bud_of st (B := B) v.l IH s1
    rw [bulkVal_eq]; omega
theorem evL_bud {B : σ → Nat} (hb : ∀ s x, B (st s x).1 ≤ B s + 1) (l : List GVal) (s : σ) : B (evL st l s).1 ≤ B s + bulkVals l := evL_bud_of st l (fun i hi s => evG_bud st hb l[i] s) s
theorem bulk_take {l : List GVal} {k : Nat} (hk : k < l.length) : bulkVals (l.take k) + (1 + bulkVal l[k]) ≤ bulkVals l := by
  have h2 := bulkVals_append (l.take (k + 1)) (l.drop (k + 1))
  rw [List.take_append_drop, List.take_succ_eq_append_getElem hk, bulkVals_append] at h2
  have h3 : bulkVals [l[k]] = 1 + bulkVal l[k] := by rw [bulkVals_eq]; simp
  omega
end
end Go.Proofs.Ytblcmajhdndmfaa
