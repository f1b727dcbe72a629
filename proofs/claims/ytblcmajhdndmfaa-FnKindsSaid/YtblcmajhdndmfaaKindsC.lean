/- The kinds of a tree, counted. No program in sight. -/
import Derived.Test.YtblcmajhdndmfaaKindsIn
import Derived.Test.YtblcmajhdndmfaaPre
namespace Go.Proofs.Ytblcmajhdndmfaa
open Go.RowKit
set_option linter.unusedVariables false
set_option maxRecDepth 100000

def kindL (v : GVal) : List Int := (preG v).map (·.kind)
theorem kindAt_pre (v : GVal) : (pathsG [] v).map (kindAt v) = kindL v := by
  have h := congrArg (List.map fun o : Option GVal => match o with | some x => x.kind | none => 0) (paths_pre v v [] rfl)
  rw [List.map_map, List.map_map] at h
  exact h
theorem zvAt_pre (v : GVal) : (pathsG [] v).map (fun p => (zv (atG v p)).kind) = kindL v := by
  have h := congrArg (List.map fun o : Option GVal => (zv o).kind) (paths_pre v v [] rfl)
  rw [List.map_map, List.map_map] at h
  exact h
theorem findG_cnt' (v : GVal) (k : Int) : (findG v k).length = (kindL v).count k := by
  unfold findG
  rw [← kindAt_pre, List.count, List.countP_map, List.countP_eq_length_filter]
  congr 1
theorem kindsG_asc (v : GVal) : Asc (kindsG v) ∧ ∀ y, y ∈ kindsG v ↔ y ∈ kindL v := by
  unfold kindsG
  rw [zvAt_pre]
  obtain ⟨h1, h2⟩ := insFold (kindL v) [] (by simp [Asc])
  exact ⟨h1, fun y => by rw [h2]; simp⟩
theorem sum_count : ∀ (r l : List Int), Asc r → (∀ x, x ∈ l → x ∈ r) → (r.map fun k => l.count k).sum = l.length
  | [], l, _, h => by
    cases l with
    | nil => rfl
    | cons x l => have := h x (List.mem_cons_self ..); simp at this
  | a :: r, l, hr, h => by
    unfold Asc at hr
    rw [List.pairwise_cons] at hr
    have ih := sum_count r (l.filter fun x => decide (x ≠ a)) hr.2 fun x hx => by
      rw [List.mem_filter] at hx
      rcases List.mem_cons.1 (h x hx.1) with e | e
      · simp [e] at hx
      · exact e
    have h1 : (r.map fun k => l.count k) = r.map fun k => (l.filter fun x => decide (x ≠ a)).count k := by
      apply List.map_congr_left
      intro k hk
      have hka := hr.1 k hk
      rw [List.count_filter]
      simp; omega
    have h2 : l.count a + (l.filter fun x => decide (x ≠ a)).length = l.length := by
      clear ih h1 h
      induction l with
      | nil => rfl
      | cons x l ih =>
        by_cases e : x = a
        · subst e; rw [List.count_cons_self, List.filter_cons]; simp; simp at ih; omega
        · rw [List.count_cons_of_ne e, List.filter_cons]; simp [e]; simp at ih; omega
    rw [List.map_cons, List.sum_cons, h1, ih, h2]
theorem kinds_all (v : GVal) : ((kindsG v).map fun k => (kindL v).count k).sum = (preG v).length := by
  rw [sum_count _ _ (kindsG_asc v).1 fun x hx => ((kindsG_asc v).2 x).2 hx]
  simp [kindL]
theorem kinds_pos {v : GVal} {k : Int} (h : k ∈ kindsG v) : 0 < (kindL v).count k := List.count_pos_iff.2 (((kindsG_asc v).2 k).1 h)
theorem sum_take {f : Int → Nat} : ∀ (l : List Int) (i : Nat) (hi : i < l.length), ((l.take (i + 1)).map f).sum = ((l.take i).map f).sum + f l[i]
  | l, i, hi => by rw [List.take_succ_eq_append_getElem hi, List.map_append, List.sum_append]; simp only [List.map_cons, List.map_nil, List.sum_cons, List.sum_nil, Nat.add_zero]
theorem kinds_some {v : GVal} {k : Int} (h : k ∈ kindsG v) : ∃ u, u ∈ preG v ∧ u.kind = k := by
  have := ((kindsG_asc v).2 k).1 h
  rw [kindL, List.mem_map] at this
  exact this
/-- The number of a tree's values. -/
theorem preG_len_eq (v : GVal) : (preG v).length = 1 + (preL v.l).length := by rw [preG_eq]; simp; omega
theorem preL_take {l : List GVal} {k : Nat} (hk : k < l.length) : (preL (l.take (k + 1))).length = (preL (l.take k)).length + (preG l[k]).length := by
  rw [List.take_succ_eq_append_getElem hk, preL_snoc]; simp
end Go.Proofs.Ytblcmajhdndmfaa
