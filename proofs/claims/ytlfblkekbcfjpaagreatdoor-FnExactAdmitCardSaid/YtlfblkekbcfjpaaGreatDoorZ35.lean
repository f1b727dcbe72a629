/- Part of a proof: contracts and plain laws. -/
import Derived.Test.YtlfblkekbcfjpaaGreatDoorZ27
set_option linter.unusedVariables false
set_option linter.unusedSimpArgs false
namespace Go.Proofs.YtlfblkekbcfjpaaGreatDoor
open Go
set_option maxRecDepth 100000
set_option maxHeartbeats 2000000
section
variable {α : Type} (f : α → GVal)
def later (x : GVal) : List α → Bool
 | [] => false
 | [a] => decide (f a = x)
 | a :: _ :: l => decide (f a = x) || later x l
def keepF : List α → List α
 | a :: b :: l => if later f (f a) l = true then keepF l else a :: b :: keepF l
 | _ => []
theorem later_at {x : GVal} {l : List α} {k : Nat} (h : k < l.length) : later f x (l.drop k) = (decide (f l[k] = x) || later f x (l.drop (k + 2))) := by
 rw [List.drop_eq_getElem_cons h]
 by_cases h2 : k + 1 < l.length
 ·rw [List.drop_eq_getElem_cons h2]; rfl
 ·rw [List.drop_eq_nil_of_le (show l.length ≤ k + 1 by omega), List.drop_eq_nil_of_le (show l.length ≤ k + 2 by omega)]
  simp +zeta [later]
theorem later_end {x : GVal} {l : List α} {k : Nat} (h : l.length ≤ k) : later f x (l.drop k) = false := by
 rw [List.drop_eq_nil_of_le h]; rfl
theorem keepF_at {l : List α} {k : Nat} (h : k + 1 < l.length) : keepF f (l.drop k) = if later f (f l[k]) (l.drop (k + 2)) = true then keepF f (l.drop (k + 2)) else l[k] :: l[k + 1] :: keepF f (l.drop (k + 2)) := by
 rw [List.drop_eq_getElem_cons (show k < l.length by omega), List.drop_eq_getElem_cons h]; rfl
theorem keepF_end {l : List α} {k : Nat} (h : l.length ≤ k) : keepF f (l.drop k) = [] := by
 rw [List.drop_eq_nil_of_le h]; rfl
theorem keepF_sub : ∀ l : List α, (keepF f l).Sublist l
 | [] => .slnil
 | [a] => List.nil_sublist _
 | a :: b :: l => by
  unfold keepF
  split
  ·exact ((keepF_sub l).cons b).cons a
  ·exact ((keepF_sub l).cons_cons b).cons_cons a
end
theorem later_map {α : Type} (f : α → GVal) (x : GVal) : ∀ l : List α, later id x (l.map f) = later f x l
 | [] => rfl
 | [a] => rfl
 | a :: b :: l => by
  rw [List.map_cons, List.map_cons]
  unfold later
  rw [later_map f x l]; rfl
theorem keepF_map {α : Type} (f : α → GVal) : ∀ l : List α, keepF id (l.map f) = (keepF f l).map f
 | [] => rfl
 | [a] => rfl
 | a :: b :: l => by
  rw [List.map_cons, List.map_cons]
  unfold keepF
  rw [later_map f, keepF_map f l]
  by_cases h : later f (f a) l = true
  ·rw [if_pos (show later f (id (f a)) l = true from h), if_pos h]
  ·rw [if_neg (show ¬ later f (id (f a)) l = true from h), if_neg h]; rfl
def oneP (v : GVal) : GVal := if v.kind = 10 ∧ v.l.length % 2 = 0 then ⟨v.kind, v.n, v.x, v.s, keepF id v.l⟩ else v
mutual
def onceG : GVal → GVal
 | ⟨k, n, x, s, l⟩ => oneP ⟨k, n, x, s, onceL l⟩
def onceL : List GVal → List GVal
 | [] => []
 | a :: l => onceG a :: onceL l
end
@[simp] theorem onceL_map : ∀ l : List GVal, onceL l = l.map onceG
 | [] => by simp +zeta [onceL]
 | a :: l => by rw [onceL, onceL_map l, List.map_cons]
theorem onceG_eq (v : GVal) : onceG v = oneP ⟨v.kind, v.n, v.x, v.s, v.l.map onceG⟩ := by cases v; simp only [onceG, onceL_map]
theorem cntL_sub {a b : List GVal} (h : a.Sublist b) : cntL a ≤ cntL b := by
 induction h with
 | slnil => exact Nat.le_refl _
 | cons x _ ih => simp only [cntL]; omega
 | cons_cons x _ ih => simp only [cntL]; omega
theorem cnt_once (v : GVal) : cntG (onceG v) ≤ cntG v := by
 induction v using GVal.ind with
 | h v ih =>
  have hl : ∀ (l : List GVal), (∀ k (h : k < l.length), cntG (onceG l[k]) ≤ cntG l[k]) → cntL (l.map onceG) ≤ cntL l := by
   intro l
   induction l with
   | nil => intro _; exact Nat.le_refl _
   | cons a l ih2 =>
    intro h
    have h1 := h 0 (by simp +zeta)
    have h2 := ih2 fun k hk => by have := h (k + 1) (by simp +zeta; omega); simpa using this
    simp only [List.map_cons, cntL, List.getElem_cons_zero] at h1 ⊢; omega
  have h1 := hl v.l ih
  rw [onceG_eq, cntG_eq v]
  unfold oneP
  split
  ·rw [cntG_eq]
   have := cntL_sub (keepF_sub id (v.l.map onceG))
   simp only at this ⊢; omega
  ·rw [cntG_eq]; simp only; omega
end Go.Proofs.YtlfblkekbcfjpaaGreatDoor
