/- Part of a proof: contracts and plain laws. -/
import Derived.Test.YtlfblkekbcfjpaaGreatDoorZ34
import Derived.Test.YtlfblkekbcfjpaaGreatDoorZ35
set_option linter.unusedVariables false
set_option linter.unusedSimpArgs false
namespace Go.Proofs.YtlfblkekbcfjpaaGreatDoor
open Go
set_option maxRecDepth 100000
set_option maxHeartbeats 2000000
mutual
def okN : GVal → Prop
 | ⟨k, n, x, _, l⟩ => (k = 3 ∨ k = 6 → decOkP n x = true) ∧ okNs l
def okNs : List GVal → Prop
 | [] => True
 | a :: l => okN a ∧ okNs l
end
theorem okN_eq (v : GVal) : okN v ↔ ((v.kind = 3 ∨ v.kind = 6 → decOkP v.n v.x = true) ∧ okNs v.l) := by cases v; simp only [okN]
theorem okNs_mem : ∀ {l : List GVal}, okNs l ↔ ∀ q ∈ l, okN q
 | [] => ⟨fun _ q h => (by cases h), fun _ => trivial⟩
 | a :: l => by
  rw [List.forall_mem_cons, ← okNs_mem (l := l)]
  simp only [okNs]
theorem decNewP_ok {n x : Int} {p : Int × Int} (h : decNewP n x = some p) : decOkP p.1 p.2 = true := by
 unfold decNewP at h
 repeat' split at h
 all_goals first
  | (cases h; done)
  | (cases h; decide)
  | (rename_i hh; cases h; unfold decOkP; simp only [if_true]; exact decide_eq_true hh)
  | (rename_i hh; cases h; exact hh)
theorem numG_ok {n x : Int} {p : Int × Int} (h : decNewP n x = some p) : okN (numG p) ∧ cntG (numG p) = 1 := by
 have h1 := decNewP_ok h
 unfold numG
 split
 ·rename_i h2
  rw [h2] at h1
  exact ⟨(okN_eq _).2 ⟨fun _ => h1, trivial⟩, rfl⟩
 ·exact ⟨(okN_eq _).2 ⟨fun _ => h1, trivial⟩, rfl⟩
theorem leaf_ok {k n x : Int} {s : ByteArray} (h : ¬ (k = 3 ∨ k = 6)) : okN ⟨k, n, x, s, []⟩ := (okN_eq _).2 ⟨fun h2 => absurd h2 h, trivial⟩
def Good (rd : Nat → Except Int (GVal × Nat)) : Prop := ∀ a v e, rd a = .ok (v, e) → okN v ∧ a + cntG v ≤ e
theorem itemP_good {ts : List Tok} {rd : Nat → Except Int (GVal × Nat)} (h : Good rd) {m : Bool} {a e : Nat} {xs : List GVal} (hi : itemP ts rd m a = .ok (xs, e)) : (∀ q ∈ xs, okN q) ∧ a + cntL xs ≤ e := by
 unfold itemP at hi
 cases m with
 | true =>
  simp only [if_true] at hi
  cases hn : nameP ts a with
  | none => rw [hn] at hi; cases hi
  | some s =>
   rw [hn] at hi; simp only at hi
   cases hr : rd (a + 2) with
   | error c => rw [hr] at hi; cases hi
   | ok p =>
    obtain ⟨v, e1⟩ := p
    have h1 := h _ _ _ hr
    rw [hr] at hi; cases hi
    refine ⟨fun q hq => ?_, ?_⟩
    ·rcases List.mem_cons.1 hq with rfl | hq
     ·exact leaf_ok (by omega)
     ·rcases List.mem_cons.1 hq with rfl | hq
      ·exact h1.1
      ·cases hq
    ·have : cntG (txG s) = 1 := rfl
     simp +zeta [cntL]; omega
 | false =>
  simp only [Bool.false_eq_true, if_false] at hi
  cases hr : rd a with
  | error c => rw [hr] at hi; cases hi
  | ok p =>
   obtain ⟨v, e1⟩ := p
   have h1 := h _ _ _ hr
   rw [hr] at hi; cases hi
   exact ⟨fun q hq => by rw [List.mem_singleton] at hq; rw [hq]; exact h1.1, by simp +zeta [cntL]; omega⟩
theorem manyT_good {ts : List Tok} {rd : Nat → Except Int (GVal × Nat)} (h : Good rd) {m : Bool} {c : UInt8} : ∀ (f a : Nat) {xs : List GVal} {e : Nat}, manyT ts rd m c f a = .ok (xs, e) → (∀ q ∈ xs, okN q) ∧ a + cntL xs ≤ e
 | 0, a, xs, e, hm => by cases hm
 | f + 1, a, xs, e, hm => by
  unfold manyT at hm
  cases hi : itemP ts rd m a with
  | error c1 => rw [hi] at hm; cases hm
  | ok p =>
   obtain ⟨ys, e1⟩ := p
   have h1 := itemP_good h hi
   rw [hi] at hm; simp only at hm
   split at hm
   ·cases hm; exact ⟨h1.1, by omega⟩
   ·split at hm
    ·cases h2 : manyT ts rd m c f (e1 + 1) with
     | error c1 => rw [h2] at hm; cases hm
     | ok q =>
      obtain ⟨zs, e2⟩ := q
      have h3 := manyT_good h f (e1 + 1) h2
      rw [h2] at hm; cases hm
      refine ⟨fun q hq => (List.mem_append.1 hq).elim (h1.1 q) (h3.1 q), ?_⟩
      rw [cntL_app]; omega
    ·cases hm
theorem valueP_good {ts : List Tok} : ∀ d, Good (valueP ts d)
 | 0, a, v, e, h => by cases h
 | d + 1, a, v, e, h => by
  unfold valueP at h
  cases ht : ts[a]? with
  | none => rw [ht] at h; cases h
  | some t =>
   rw [ht] at h; simp only at h
   have hl : ∀ k m c, ¬ (k = 3 ∨ k = 6) → listE k (elemsP ts (valueP ts d) m c (a + 1)) = .ok (v, e) → okN v ∧ a + cntG v ≤ e := fun k m c hk hx => by
    rcases hq : elemsP ts (valueP ts d) m c (a + 1) with _ | ⟨xs, e1⟩
    ·rw [hq] at hx; cases hx
    ·have h1 : (∀ q ∈ xs, okN q) ∧ a + 1 + cntL xs ≤ e1 := by
      unfold elemsP at hq
      split at hq
      ·cases hq; exact ⟨fun q hq => (by cases hq), (by simp +zeta [cntL])⟩
      ·exact manyT_good (valueP_good d) _ _ hq
     rw [hq] at hx; cases hx
     exact ⟨(okN_eq _).2 ⟨fun h2 => absurd h2 hk, okNs_mem.2 h1.1⟩, by rw [cntG_eq]; simp only; omega⟩
   repeat' split at h
   all_goals first
    | cases h; done
    | (rename_i hp; cases h; exact ⟨(numG_ok hp).1, by rw [(numG_ok hp).2]; exact Nat.le_refl _⟩)
    | (cases h; exact ⟨leaf_ok (by decide), Nat.le_refl _⟩)
    | exact hl _ _ _ (by decide) h
theorem readTextP_good {l : List UInt8} {d : Nat} {v : GVal} (h : readTextP l d = .ok v) : okN v ∧ cntG v ≤ l.length := by
 unfold readTextP at h
 cases ht : toksQ l 0 with
 | error c => rw [ht] at h; cases h
 | ok ts =>
  rw [ht] at h; simp only at h
  have hlen := toks_len _ _ (Nat.zero_le _) ht
  unfold treeP at h
  rcases hv : valueP ts d 0 with c | ⟨v', e⟩
  ·rw [hv] at h; cases h
  ·have h1 := valueP_good d 0 v' e hv
   have h2 := (valueP_adv d 0 v' e hv).2
   rw [hv] at h; simp only at h
   split at h
   ·cases h
   ·cases h; exact ⟨h1.1, by omega⟩
end Go.Proofs.YtlfblkekbcfjpaaGreatDoor
