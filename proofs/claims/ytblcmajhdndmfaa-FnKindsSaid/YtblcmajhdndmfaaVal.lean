/- The program's trees as plain data. No program in sight. -/
import Derived.Test.YtblcmajhdndmfaaData
namespace Go.Proofs.Ytblcmajhdndmfaa
open Go.RowKit
set_option linter.unusedVariables false
set_option maxRecDepth 100000

structure GVal where
  kind : Int
  n : Int
  x : Int
  s : ByteArray
  l : List GVal

mutual
def GVal.same : GVal → GVal → Bool
  | ⟨k, n, x, s, l⟩, ⟨k', n', x', s', l'⟩ => decide (k = k') && decide (n = n') && decide (x = x') && decide (s = s') && GVal.sameL l l'
def GVal.sameL : List GVal → List GVal → Bool
  | [], [] => true
  | a :: l, b :: l' => GVal.same a b && GVal.sameL l l'
  | _, _ => false
end

mutual
theorem GVal.same_eq : ∀ (a b : GVal), GVal.same a b = true ↔ a = b
  | ⟨k, n, x, s, l⟩, ⟨k', n', x', s', l'⟩ => by
    simp only [GVal.same, Bool.and_eq_true, decide_eq_true_eq, GVal.sameL_eq l l', GVal.mk.injEq, and_assoc]
theorem GVal.sameL_eq : ∀ (a b : List GVal), GVal.sameL a b = true ↔ a = b
  | [], [] => by simp [GVal.sameL]
  | [], _ :: _ => by simp [GVal.sameL]
  | _ :: _, [] => by simp [GVal.sameL]
  | a :: l, b :: l' => by simp only [GVal.sameL, Bool.and_eq_true, GVal.same_eq a b, GVal.sameL_eq l l', List.cons.injEq]
end

instance : DecidableEq GVal := fun a b => if h : GVal.same a b = true then .isTrue ((GVal.same_eq a b).1 h) else .isFalse fun e => h ((GVal.same_eq a b).2 e)

theorem gval_eq {a b : GVal} (h1 : a.kind = b.kind) (h2 : a.n = b.n) (h3 : a.x = b.x) (h4 : a.s = b.s) (h5 : a.l = b.l) : a = b := by cases a; cases b; subst h1 h2 h3 h4 h5; rfl

/-- The fields of a tree's root that are numbers or text are those of Go. -/
def VInt (v : GVal) : Prop := I64 v.kind ∧ I64 v.n ∧ I64 v.x ∧ v.s.size ≤ maxLen

mutual
def rpVal (w : World) : GVal → List Nat → List Value → Prop
  | ⟨k, n, x, s, l⟩, F, cs => ∃ A c, cs = [.int .i64 k, .int .i64 n, .int .i64 x, .string s, .slice A l.length c] ∧ (I64 k ∧ I64 n ∧ I64 x ∧ s.size ≤ maxLen) ∧ l.length ≤ c ∧ c ≤ maxLen ∧
      ((l = [] ∧ F = [] ∧ (A = none → c = 0)) ∨ ∃ b off F' xs, A = some ⟨b, off, none⟩ ∧ F = b :: F' ∧ rpVals w l F' xs ∧ CellsAt w b off xs)
def rpVals (w : World) : List GVal → List Nat → List Value → Prop
  | [], F, xs => F = [] ∧ xs = []
  | a :: l, F, xs => ∃ F1 F2 cs ys, F = F1 ++ F2 ∧ xs = cs ++ ys ∧ rpVal w a F1 cs ∧ rpVals w l F2 ys
end

mutual
theorem rpVal.keep {w w' : World} : ∀ (v : GVal) {F : List Nat} {cs : List Value}, rpVal w v F cs → (∀ b, b ∈ F → w'.heap[b]? = w.heap[b]?) → rpVal w' v F cs
  | ⟨k, n, x, s, l⟩, F, cs, h, hk => by
    simp only [rpVal] at h ⊢
    obtain ⟨A, c, h1, h2, h3, h4, h5⟩ := h
    refine ⟨A, c, h1, h2, h3, h4, ?_⟩
    rcases h5 with h5 | ⟨b, off, F', xs, hA, hF, he, hc⟩
    · exact .inl h5
    · subst hF
      exact .inr ⟨b, off, F', xs, hA, rfl, rpVals.keep l he fun b hb => hk b (List.mem_cons_of_mem _ hb), hc.keep (hk _ (List.mem_cons_self ..))⟩
theorem rpVals.keep {w w' : World} : ∀ (l : List GVal) {F : List Nat} {xs : List Value}, rpVals w l F xs → (∀ b, b ∈ F → w'.heap[b]? = w.heap[b]?) → rpVals w' l F xs
  | [], _, _, h, _ => by simp only [rpVals] at h ⊢; exact h
  | a :: l, F, xs, h, hk => by
    simp only [rpVals] at h ⊢
    obtain ⟨F1, F2, cs, ys, hF, hx, hr, he⟩ := h
    subst hF
    exact ⟨F1, F2, cs, ys, rfl, hx, rpVal.keep a hr fun b hb => hk b (List.mem_append_left _ hb), rpVals.keep l he fun b hb => hk b (List.mem_append_right _ hb)⟩
end

theorem rpVal.shape {w : World} {v : GVal} {F : List Nat} {cs : List Value} (h : rpVal w v F cs) : ∃ A c, cs = [.int .i64 v.kind, .int .i64 v.n, .int .i64 v.x, .string v.s, .slice A v.l.length c] := by
  cases v
  simp only [rpVal] at h
  obtain ⟨A, c, h1, _⟩ := h
  exact ⟨A, c, h1⟩

instance : Rep GVal where
  wd := 5
  rp := fun w F v cs => rpVal w v F cs
  len := fun h => by obtain ⟨A, c, rfl⟩ := h.shape; rfl
  one := fun h u hu => by obtain ⟨A, c, rfl⟩ := h.shape; simp at hu; rcases hu with rfl | rfl | rfl | rfl | rfl <;> rfl
  keep := fun h hk => rpVal.keep _ h hk

theorem rpVals_elems {w : World} : ∀ (l : List GVal) (F : List Nat) (xs : List Value), rpVals w l F xs ↔ Elems w l F xs
  | [], F, xs => by simp only [rpVals, Elems]
  | a :: l, F, xs => by
    simp only [rpVals, Elems]
    constructor
    · rintro ⟨F1, F2, cs, ys, h1, h2, h3, h4⟩
      exact ⟨F1, F2, cs, ys, h1, h2, h3, (rpVals_elems l F2 ys).1 h4⟩
    · rintro ⟨F1, F2, cs, ys, h1, h2, h3, h4⟩
      exact ⟨F1, F2, cs, ys, h1, h2, h3, (rpVals_elems l F2 ys).2 h4⟩

/-- A tree, one level down. -/
theorem rpVal_iff {w : World} {v : GVal} {F : List Nat} {cs : List Value} : Rep.rp w F v cs ↔ ∃ A c, cs = [.int .i64 v.kind, .int .i64 v.n, .int .i64 v.x, .string v.s, .slice A v.l.length c] ∧ VInt v ∧ SlR w F v.l A c := by
  show rpVal w v F cs ↔ _
  obtain ⟨k, n, x, s, l⟩ := v
  simp only [rpVal, rpVals_elems]
  constructor
  · rintro ⟨A, c, h1, h2, h3, h4, h5⟩
    exact ⟨A, c, h1, h2, h3, h4, h5⟩
  · rintro ⟨A, c, h1, h2, h3, h4, h5⟩
    exact ⟨A, c, h1, h2, h3, h4, h5⟩

theorem zeroVal (w : World) : Rep.rp w [] (⟨0, 0, 0, .empty, []⟩ : GVal) [.int .i64 0, .int .i64 0, .int .i64 0, .string .empty, .slice none 0 0] :=
  rpVal_iff.2 ⟨none, 0, rfl, ⟨I64.zero, I64.zero, I64.zero, by simp [ByteArray.size]⟩, by simp, by simp, .inl ⟨rfl, rfl, fun _ => rfl⟩⟩

theorem RA.valSA {w : World} {v : GVal} {cs : List Value} (h : RA w v cs) : ∃ A c, cs = [.int .i64 v.kind, .int .i64 v.n, .int .i64 v.x, .string v.s, .slice A v.l.length c] ∧ SA w v.l A c ∧ VInt v := by
  obtain ⟨F, hr, hF⟩ := h
  obtain ⟨A, c, h1, h2, h3⟩ := rpVal_iff.1 hr
  exact ⟨A, c, h1, ⟨F, h3, hF⟩, h2⟩
theorem RA.val {w : World} {v : GVal} {A : Option Addr} {c : Nat} (hI : VInt v) (h : SA w v.l A c) : RA w v [.int .i64 v.kind, .int .i64 v.n, .int .i64 v.x, .string v.s, .slice A v.l.length c] := by
  obtain ⟨F, h1, h2⟩ := h
  exact ⟨F, rpVal_iff.2 ⟨A, c, rfl, hI, h1⟩, h2⟩
theorem RF.val {base : Nat} {w : World} {v : GVal} {A : Option Addr} {c : Nat} (hI : VInt v) (h : SF base w v.l A c) : RF base w v [.int .i64 v.kind, .int .i64 v.n, .int .i64 v.x, .string v.s, .slice A v.l.length c] := by
  obtain ⟨F, h1, h2⟩ := h
  exact ⟨F, rpVal_iff.2 ⟨A, c, rfl, hI, h1⟩, h2⟩
theorem RF.valSF {base : Nat} {w : World} {v : GVal} {cs : List Value} (h : RF base w v cs) : ∃ A c, cs = [.int .i64 v.kind, .int .i64 v.n, .int .i64 v.x, .string v.s, .slice A v.l.length c] ∧ SF base w v.l A c ∧ VInt v := by
  obtain ⟨F, hr, hF⟩ := h
  obtain ⟨A, c, h1, h2, h3⟩ := rpVal_iff.1 hr
  exact ⟨A, c, h1, ⟨F, h3, hF⟩, h2⟩

theorem SA.val_at {w : World} {l : List GVal} {A : Option Addr} {c : Nat} (h : SA w l A c) {i : Nat} (hi : i < l.length) :
    ∃ b off A' c', A = some ⟨b, off, none⟩ ∧ b < w.heap.size ∧ VInt l[i] ∧ SA w l[i].l A' c' ∧ w.cell? ⟨b, off + i * 5, none⟩ = some (.int .i64 l[i].kind) ∧ w.cell? ⟨b, off + i * 5 + 1, none⟩ = some (.int .i64 l[i].n) ∧
      w.cell? ⟨b, off + i * 5 + 1 + 1, none⟩ = some (.int .i64 l[i].x) ∧ w.cell? ⟨b, off + i * 5 + 1 + 1 + 1, none⟩ = some (.string l[i].s) ∧ w.cell? ⟨b, off + i * 5 + 1 + 1 + 1 + 1, none⟩ = some (.slice A' l[i].l.length c') := by
  obtain ⟨b, off, cs, rfl, hb, hr, hc⟩ := h.at hi
  obtain ⟨A', c', rfl, hs, hI⟩ := hr.valSA
  exact ⟨b, off, A', c', rfl, hb, hI, hs, hc.c0, hc.c1, hc.c2, hc.c3, hc.c4⟩

mutual
def bulkVal : GVal → Nat
  | ⟨_, _, _, s, l⟩ => s.size + bulkVals l
def bulkVals : List GVal → Nat
  | [] => 0
  | a :: l => 1 + bulkVal a + bulkVals l
end
theorem bulkVal_eq (v : GVal) : bulkVal v = v.s.size + bulkVals v.l := by cases v; rw [bulkVal]
theorem bulkVals_eq (l : List GVal) : bulkVals l = l.length + (l.map bulkVal).sum := by
  induction l with
  | nil => simp [bulkVals]
  | cons a l ih => simp only [bulkVals, List.length_cons, List.map_cons, List.sum_cons, ih]; omega

/-- A tree's depth: for an induction over trees. -/
theorem GVal.ind {p : GVal → Prop} (h : ∀ v : GVal, (∀ i (hi : i < v.l.length), p v.l[i]) → p v) (v : GVal) : p v := by
  have key : ∀ n (v : GVal), bulkVal v ≤ n → p v := by
    intro n
    induction n with
    | zero =>
      intro v hv
      refine h v fun i hi => ?_
      rw [bulkVal_eq, bulkVals_eq] at hv
      omega
    | succ n ih =>
      intro v hv
      refine h v fun i hi => ih _ ?_
      have := le_sum_at bulkVal v.l hi
      rw [bulkVal_eq, bulkVals_eq] at hv
      omega
  exact key _ v (Nat.le_refl _)
end Go.Proofs.Ytblcmajhdndmfaa
