/- Steps and paths as text: plain. -/
import Derived.Test.YtblcmajhdndmfaaDoorTree
import Derived.Test.YtblcmajhdndmfaaDoorNum
namespace Go.Proofs.YtblcmajhdndmfaaDoor
open Go.RowKit
set_option linter.unusedVariables false
set_option maxRecDepth 100000

def nameT (x : GVal) (q : ByteArray) : ByteArray := if x.kind = 7 then ⟨#[46]⟩ ++ x.s else ⟨#[46, 35]⟩ ++ q
def stepT (v : GVal) (s : GStep) : ByteArray :=
  if v.kind = 10 then
    (if s.name then nameT (zvv v.l[(2 * s.at_).toNat]?) (numS s.at_) ++ ⟨#[126]⟩ else nameT (zvv v.l[(2 * s.at_).toNat]?) (numS s.at_))
  else if v.kind = 11 then ⟨#[33]⟩ else ⟨#[91]⟩ ++ numS s.at_ ++ ⟨#[93]⟩
where zvv (o : Option GVal) : GVal := o.getD ⟨0, 0, 0, .empty, []⟩
def pathT (v : GVal) : List GStep → ByteArray
  | [] => .empty
  | s :: p => match stepG v s with
    | none => .empty
    | some x => stepT v s ++ pathT x p

theorem place_name {v : GVal} {s : GStep} (hk : v.kind = 10) (hp : placeI v s ≠ -1) : ∃ j : Nat, 2 * s.at_ = (j : Int) ∧ j < v.l.length ∧ (2 * s.at_).toNat = j := by
  unfold placeI at hp
  split at hp
  · rename_i h
    unfold placeK at h
    obtain ⟨h1, _, h3⟩ := h
    refine ⟨(2 * s.at_).toNat, by omega, ?_, rfl⟩
    split at h3 <;> try split at h3
    all_goals omega
  · exact absurd rfl hp
theorem bulk_s (v : GVal) : v.s.size ≤ bulkVal v := by rw [bulkVal_eq]; omega
theorem stepT_size {v : GVal} {s : GStep} (hI : I64 s.at_) : (stepT v s).size ≤ bulkVal v + 23 := by
  have h1 := numS_size hI
  have hn : (nameT (stepT.zvv v.l[(2 * s.at_).toNat]?) (numS s.at_)).size ≤ bulkVal v + 23 - 1 := by
    unfold nameT
    split
    · rename_i hk
      unfold stepT.zvv at hk ⊢
      cases hc : v.l[(2 * s.at_).toNat]? with
      | none => rw [hc] at hk; simp at hk
      | some x =>
        obtain ⟨hi, he⟩ := List.getElem?_eq_some_iff.1 hc
        have := bulk_at hi
        rw [he] at this
        have h3 := bulk_s x
        simp only [ByteArray.size_append, Option.getD_some]
        have : (ByteArray.mk #[46]).size = 1 := rfl
        omega
    · simp only [ByteArray.size_append]
      have : (ByteArray.mk #[46, 35]).size = 2 := rfl
      have := bulk_s v
      omega
  have e1 : (ByteArray.mk #[126]).size = 1 := rfl
  have e2 : (ByteArray.mk #[33]).size = 1 := rfl
  have e3 : (ByteArray.mk #[91]).size = 1 := rfl
  have e4 : (ByteArray.mk #[93]).size = 1 := rfl
  have := bulk_s v
  unfold stepT
  split
  · split
    · rw [ByteArray.size_append]; omega
    · omega
  · split
    · omega
    · simp only [ByteArray.size_append]; omega
theorem pathT_size : ∀ (p : List GStep) (v : GVal), (∀ s ∈ p, I64 s.at_) → (pathT v p).size ≤ p.length * (bulkVal v + 23)
  | [], v, _ => by simp [pathT]
  | s :: p, v, hI => by
    unfold pathT
    split
    · simp
    · rename_i x hs
      have h1 := pathT_size p x (fun s h => hI s (List.mem_cons_of_mem _ h))
      have h2 := stepT_size (v := v) (hI s (List.mem_cons_self ..))
      have h3 := bulk_step hs
      have h4 : p.length * (bulkVal x + 23) ≤ p.length * (bulkVal v + 23) := Nat.mul_le_mul_left _ (by omega)
      rw [ByteArray.size_append, List.length_cons, Nat.succ_mul]
      omega
theorem pathT_none {v : GVal} {s : GStep} {p : List GStep} (h : stepG v s = none) : pathT v (s :: p) = .empty := by unfold pathT; rw [h]
theorem pathT_some {v x : GVal} {s : GStep} {p : List GStep} (h : stepG v s = some x) : pathT v (s :: p) = stepT v s ++ pathT x p := by conv => lhs; unfold pathT; rw [h]
theorem BA.append_empty (a : ByteArray) : a ++ .empty = a := by apply ByteArray.ext; simp
end Go.Proofs.YtblcmajhdndmfaaDoor
