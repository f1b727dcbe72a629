/- Kinds gathered in an ascending row. No program in sight. -/
import Derived.Lib.SlicesCompact
namespace Go.Proofs.Ytblcmajhdndmfaa
open Go.Lib
set_option linter.unusedVariables false
set_option maxRecDepth 100000

/-- Strictly ascending. -/
def Asc (l : List Int) : Prop := l.Pairwise (· < ·)
theorem asc_unique : ∀ (a b : List Int), Asc a → Asc b → (∀ x, x ∈ a ↔ x ∈ b) → a = b
  | [], [], _, _, _ => rfl
  | [], y :: b, _, _, h => by have := (h y).2 (List.mem_cons_self ..); simp at this
  | x :: a, [], _, _, h => by have := (h x).1 (List.mem_cons_self ..); simp at this
  | x :: a, y :: b, ha, hb, h => by
    unfold Asc at ha hb
    rw [List.pairwise_cons] at ha hb
    have hxy : x = y := by
      rcases List.mem_cons.1 ((h x).1 (List.mem_cons_self ..)) with e | e
      · exact e
      · rcases List.mem_cons.1 ((h y).2 (List.mem_cons_self ..)) with e' | e'
        · exact e'.symm
        · have := hb.1 x e; have := ha.1 y e'; omega
    subst hxy
    congr 1
    refine asc_unique a b ha.2 hb.2 fun z => ⟨fun hz => ?_, fun hz => ?_⟩
    · rcases List.mem_cons.1 ((h z).1 (List.mem_cons_of_mem _ hz)) with e | e
      · subst e; have := ha.1 _ hz; omega
      · exact e
    · rcases List.mem_cons.1 ((h z).2 (List.mem_cons_of_mem _ hz)) with e | e
      · subst e; have := hb.1 _ hz; omega
      · exact e

/-- Where a number is to be laid into an ascending row: from the end on. -/
def posK (acc : List Int) (x : Int) : Nat → Nat
  | 0 => 0
  | n + 1 => if acc.getD n 0 > x then posK acc x n else n + 1
def insK (acc : List Int) (x : Int) : List Int := if posK acc x acc.length = 0 ∨ acc.getD (posK acc x acc.length - 1) 0 ≠ x then acc.take (posK acc x acc.length) ++ [x] ++ acc.drop (posK acc x acc.length) else acc
theorem posK_le (acc : List Int) (x : Int) : ∀ n, posK acc x n ≤ n
  | 0 => by simp [posK]
  | n + 1 => by
    unfold posK
    split
    · have := posK_le acc x n; omega
    · omega
theorem posK_up (acc : List Int) (x : Int) : ∀ n i, posK acc x n ≤ i → i < n → x < acc.getD i 0
  | 0, i, _, h => by omega
  | n + 1, i, h, hi => by
    unfold posK at h
    split at h
    · rename_i hg
      by_cases e : i = n
      · subst e; omega
      · exact posK_up acc x n i h (by omega)
    · omega
theorem posK_down (acc : List Int) (x : Int) : ∀ n, 0 < posK acc x n → acc.getD (posK acc x n - 1) 0 ≤ x
  | 0, h => by simp [posK] at h
  | n + 1, h => by
    unfold posK at h ⊢
    split
    · rename_i hg; rw [if_pos hg] at h; exact posK_down acc x n h
    · rename_i hg; simp only [Nat.add_sub_cancel]; omega
theorem asc_get {l : List Int} (h : Asc l) {i j : Nat} (hij : i < j) (hj : j < l.length) : l.getD i 0 < l.getD j 0 := by
  have := List.pairwise_iff_getElem.1 h i j (by omega) hj hij
  simpa [List.getD, List.getElem?_eq_getElem hj, List.getElem?_eq_getElem (show i < l.length by omega)] using this
theorem insK_spec {acc : List Int} (h : Asc acc) (x : Int) : Asc (insK acc x) ∧ ∀ y, y ∈ insK acc x ↔ y ∈ acc ∨ y = x := by
  have hk := posK_le acc x acc.length
  obtain ⟨k, hkk⟩ : ∃ k, k = posK acc x acc.length := ⟨_, rfl⟩
  have hup := posK_up acc x acc.length
  have hdn := posK_down acc x acc.length
  unfold insK
  rw [← hkk] at hk hup hdn ⊢
  by_cases hc : k = 0 ∨ acc.getD (k - 1) 0 ≠ x
  · rw [if_pos hc]
    have hlo : ∀ y, y ∈ acc.take k → y < x := by
      intro y hy
      obtain ⟨i, hi, rfl⟩ := List.mem_iff_getElem.1 hy
      rw [List.length_take] at hi
      have h0 : 0 < k := by omega
      have h1 := hdn h0
      have h2 : acc.getD (k - 1) 0 < x := by rcases hc with e | e <;> omega
      rw [List.getElem_take]
      have h3 : acc.getD i 0 = acc[i]'(by omega) := by simp [List.getD, List.getElem?_eq_getElem (show i < acc.length by omega)]
      rw [← h3]
      by_cases e : i = k - 1
      · rw [e]; exact h2
      · have := asc_get h (show i < k - 1 by omega) (by omega); omega
    have hhi : ∀ y, y ∈ acc.drop k → x < y := by
      intro y hy
      obtain ⟨i, hi, rfl⟩ := List.mem_iff_getElem.1 hy
      rw [List.length_drop] at hi
      have := hup (k + i) (by omega) (by omega)
      rw [List.getElem_drop]
      simpa [List.getD, List.getElem?_eq_getElem (show k + i < acc.length by omega)] using this
    refine ⟨?_, fun y => ?_⟩
    · unfold Asc
      rw [List.append_assoc, List.pairwise_append]
      refine ⟨h.sublist (List.take_sublist ..), ?_, fun a ha b hb => ?_⟩
      · rw [List.singleton_append, List.pairwise_cons]
        exact ⟨hhi, h.sublist (List.drop_sublist ..)⟩
      · rcases List.mem_cons.1 hb with rfl | hb
        · exact hlo a ha
        · have := hlo a ha; have := hhi b hb; omega
    · conv => rhs; rw [← List.take_append_drop k acc]
      simp only [List.mem_append, List.mem_singleton]
      constructor
      · rintro ((h | h) | h)
        · exact .inl (.inl h)
        · exact .inr h
        · exact .inl (.inr h)
      · rintro ((h | h) | h)
        · exact .inl (.inl h)
        · exact .inr h
        · exact .inl (.inr h)
  · rw [if_neg hc]
    simp only [not_or, Decidable.not_not] at hc
    refine ⟨h, fun y => ⟨.inl, fun hy => ?_⟩⟩
    rcases hy with hy | rfl
    · exact hy
    · rw [← hc.2]
      have hlt : k - 1 < acc.length := by omega
      simp [List.getD, List.getElem?_eq_getElem hlt]
theorem insFold : ∀ (l acc : List Int), Asc acc → Asc (l.foldl insK acc) ∧ ∀ y, y ∈ l.foldl insK acc ↔ y ∈ acc ∨ y ∈ l
  | [], acc, h => ⟨h, fun y => by simp⟩
  | x :: l, acc, h => by
    obtain ⟨h1, h2⟩ := insK_spec h x
    obtain ⟨h3, h4⟩ := insFold l (insK acc x) h1
    refine ⟨h3, fun y => ?_⟩
    rw [List.foldl_cons, h4, h2, List.mem_cons]
    constructor
    · rintro ((h | h) | h)
      · exact .inl h
      · exact .inr (.inl h)
      · exact .inr (.inr h)
    · rintro (h | h | h)
      · exact .inl (.inl h)
      · exact .inl (.inr h)
      · exact .inr h
theorem insK_len (acc : List Int) (x : Int) : (insK acc x).length ≤ acc.length + 1 := by
  unfold insK; split
  · simp; omega
  · omega
/-- What is left of an ascending row of numbers where equal neighbours are dropped. -/
theorem compact_asc {l : List Int} (h : l.Pairwise (· ≤ ·)) : Asc (compact l) ∧ ∀ y, y ∈ compact l ↔ y ∈ l := by
  have hget : ∀ i j, i ≤ j → j < l.length → l.toArray[i]! ≤ l.toArray[j]! := fun i j hij hj => by
    have e1 : l.toArray[i]! = l[i]'(by omega) := by simp [getElem!_pos, show i < l.length by omega]
    have e2 : l.toArray[j]! = l[j]'hj := by simp [getElem!_pos, hj]
    rw [e1, e2]
    by_cases e : i = j
    · subst e; omega
    · exact List.pairwise_iff_getElem.1 h i j (by omega) hj (by omega)
  have key : ∀ m, m ≤ l.length → Asc (compactUpTo l.toArray m) ∧ ∀ y, y ∈ compactUpTo l.toArray m ↔ ∃ i, i < m ∧ y = l.toArray[i]! := by
    intro m
    induction m with
    | zero => intro _; exact ⟨by simp [compactUpTo, Asc], fun y => by simp [compactUpTo]⟩
    | succ m ih =>
      intro hm
      obtain ⟨h1, h2⟩ := ih (by omega)
      rw [compactUpTo_succ]
      by_cases hk : m = 0 ∨ l.toArray[m]! ≠ l.toArray[m - 1]!
      · have hkk : keeps l.toArray m = true := by
          rcases hk with e | e
          · subst e; exact keeps_lt_one _ 0 (by omega)
          · exact keeps_pos e
        rw [if_pos hkk]
        refine ⟨?_, fun y => ?_⟩
        · unfold Asc
          rw [List.pairwise_append]
          refine ⟨h1, by simp, fun a ha b hb => ?_⟩
          simp only [List.mem_singleton] at hb
          subst hb
          obtain ⟨i, hi, rfl⟩ := (h2 a).1 ha
          have a1 := hget i (m - 1) (by omega) (by omega)
          have a2 := hget (m - 1) m (by omega) (by omega)
          rcases hk with e | e
          · omega
          · omega
        · rw [List.mem_append, h2, List.mem_singleton]
          constructor
          · rintro (⟨i, hi, rfl⟩ | rfl)
            · exact ⟨i, by omega, rfl⟩
            · exact ⟨m, by omega, rfl⟩
          · rintro ⟨i, hi, rfl⟩
            by_cases e : i = m
            · exact .inr (by rw [e])
            · exact .inl ⟨i, by omega, rfl⟩
      · simp only [not_or, Decidable.not_not] at hk
        have hkk : keeps l.toArray m = false := keeps_neg (by omega) hk.2
        rw [if_neg (by simp [hkk]), List.append_nil]
        refine ⟨h1, fun y => ?_⟩
        rw [h2]
        constructor
        · rintro ⟨i, hi, rfl⟩; exact ⟨i, by omega, rfl⟩
        · rintro ⟨i, hi, rfl⟩
          by_cases e : i = m
          · subst e; exact ⟨i - 1, by omega, hk.2⟩
          · exact ⟨i, by omega, rfl⟩
  obtain ⟨h1, h2⟩ := key l.length (Nat.le_refl _)
  refine ⟨h1, fun y => ?_⟩
  show y ∈ compactUpTo l.toArray l.length ↔ _
  rw [h2, List.mem_iff_getElem]
  constructor
  · rintro ⟨i, hi, rfl⟩; exact ⟨i, hi, by simp [getElem!_pos, hi]⟩
  · rintro ⟨i, hi, rfl⟩; exact ⟨i, hi, by simp [getElem!_pos, hi]⟩
/-- Both ways of gathering numbers come to one row. -/
theorem kinds_same (l : List Int) : l.foldl insK [] = compact (l.mergeSort fun x y => decide (x ≤ y)) := by
  have hs : (l.mergeSort fun x y => decide (x ≤ y)).Pairwise (· ≤ ·) := by
    have := List.pairwise_mergeSort (le := fun x y : Int => decide (x ≤ y)) (fun a b c h1 h2 => by simp at *; omega) (fun a b => by simp; omega) l
    exact this.imp (by simp)
  obtain ⟨h1, h2⟩ := insFold l [] (by simp [Asc])
  obtain ⟨h3, h4⟩ := compact_asc hs
  exact asc_unique _ _ h1 h3 fun x => by rw [h2, h4, List.mem_mergeSort]; simp
end Go.Proofs.Ytblcmajhdndmfaa
