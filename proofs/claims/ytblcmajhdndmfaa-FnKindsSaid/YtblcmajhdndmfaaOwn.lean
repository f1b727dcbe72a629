/- Rows of the call's own: a store of an element, an append. No program in sight. -/
import Derived.Test.YtblcmajhdndmfaaBase
import Derived.Maps.AppendAt
namespace Go.Proofs.Ytblcmajhdndmfaa
open Go.RowKit
set_option linter.unusedVariables false
set_option maxRecDepth 100000

theorem stores_heap_other (g : Nat) : ∀ (cs : List Value) (w : World) (off : Nat) (b : Nat), b ≠ g → (stores w g off cs).heap[b]? = w.heap[b]?
  | [], _, _, _, _ => rfl
  | c :: cs, w, off, b, hb => (stores_heap_other g cs _ (off + 1) b hb).trans (Below.heap_setCell w ⟨g, off, none⟩ c b hb)
theorem stores_size (g : Nat) : ∀ (cs : List Value) (w : World) (off : Nat), (stores w g off cs).heap.size = w.heap.size
  | [], _, _ => rfl
  | c :: cs, w, off => (stores_size g cs _ (off + 1)).trans (by simp [World.setCell])
theorem stores_rest (g : Nat) : ∀ (cs : List Value) (w : World) (off : Nat), (stores w g off cs).os = w.os ∧ (stores w g off cs).tape = w.tape ∧ (stores w g off cs).output = w.output
  | [], _, _ => ⟨rfl, rfl, rfl⟩
  | c :: cs, w, off => stores_rest g cs (w.setCell ⟨g, off, none⟩ c) (off + 1)
theorem stores_plain (g : Nat) : ∀ (cs : List Value) (w : World) (off b : Nat), Plain w b → Plain (stores w g off cs) b
  | [], _, _, _, h => h
  | c :: cs, w, off, b, h => stores_plain g cs _ (off + 1) b (h.set _ _)
theorem stores_grown (w : World) (g off : Nat) (cs : List Value) : w.grownBy (stores w g off cs) (some g) :=
  ⟨(stores_rest g cs w off).1, (stores_rest g cs w off).2.1, (stores_rest g cs w off).2.2, Nat.le_of_eq (stores_size g cs w off).symm, fun k _ hk => stores_heap_other g cs w off k (fun e => hk (by rw [e]))⟩
theorem bStores {B : Nat} {a w : World} (h : Below B a w) {g : Nat} (hg : B ≤ g) (hB : B ≤ w.heap.size) (off : Nat) (cs : List Value) : Below B a (stores w g off cs) :=
  h.grown (stores_grown w g off cs) hB (fun k hk => by injection hk with hk; omega)

def splice : List Value → Nat → List Value → List Value
  | xs, _, [] => xs
  | xs, off, c :: cs => splice (xs.set off c) (off + 1) cs

theorem splice_eq : ∀ (cs xs : List Value) (off : Nat), off + cs.length ≤ xs.length → splice xs off cs = xs.take off ++ (cs ++ xs.drop (off + cs.length))
  | [], xs, off, h => by simp [splice]
  | c :: cs, xs, off, h => by
    rw [splice, splice_eq cs _ (off + 1) (by simp at h ⊢; omega)]
    have hlt : off < xs.length := by simp at h; omega
    rw [List.take_set, List.take_succ_eq_append_getElem hlt, List.set_append_right _ _ (by simp; omega)]
    rw [List.drop_set_of_lt (by omega)]
    simp only [List.length_take, List.length_cons]
    rw [Nat.min_eq_left (by omega)]
    simp [Nat.add_assoc, Nat.add_comm 1]

theorem ownsRow_stores {base : Nat} {t : TypeId} {size n g c : Nat} : ∀ (cs xs : List Value) (w : World) (off : Nat), w.ownsRow base t size (.slice (some ⟨g, 0, none⟩) n c) n xs →
    (stores w g off cs).ownsRow base t size (.slice (some ⟨g, 0, none⟩) n c) n (splice xs off cs)
  | [], _, _, _, h => h
  | u :: cs, xs, w, off, h => ownsRow_stores cs _ _ (off + 1) (h.stored off u).1

section
variable {α : Type} [Rep α]

theorem Elems.set {w : World} {a : α} {F' : List Nat} {cs : List Value} (hr : Rep.rp w F' a cs) : ∀ {l : List α} {F : List Nat} {xs : List Value}, Elems w l F xs → ∀ i, i < l.length →
    ∃ F1 F2 F3, F = F1 ++ (F2 ++ F3) ∧ Elems w (l.set i a) (F1 ++ (F' ++ F3)) (xs.take (i * Rep.wd α) ++ (cs ++ xs.drop (i * Rep.wd α + cs.length)))
  | [], _, _, _, i, hi => absurd hi (by simp)
  | a0 :: l, _, _, ⟨G1, G2, cs0, ys, hF, hx, hr0, he⟩, i, hi => by
    subst hF hx
    have hl : cs.length = Rep.wd α := Rep.len hr
    have hl0 : cs0.length = Rep.wd α := Rep.len hr0
    cases i with
    | zero =>
      refine ⟨[], G1, G2, rfl, F', G2, cs, ys, by simp, ?_, hr, he⟩
      rw [Nat.zero_mul, List.take_zero, List.nil_append, Nat.zero_add, hl, ← hl0, List.drop_left]
    | succ i =>
      obtain ⟨F1, F2, F3, hF, he'⟩ := Elems.set hr he i (by simpa using hi)
      subst hF
      refine ⟨G1 ++ F1, F2, F3, by simp, G1, F1 ++ (F' ++ F3), cs0, _, by simp, ?_, hr0, he'⟩
      have e : (i + 1) * Rep.wd α = cs0.length + i * Rep.wd α := by rw [hl0, Nat.add_mul]; omega
      rw [e, List.take_append, List.take_of_length_le (by omega), Nat.add_sub_cancel_left, Nat.add_assoc, List.drop_append, List.drop_of_length_le (by omega), List.nil_append, Nat.add_sub_cancel_left, List.append_assoc]

theorem OwnC.stored {w : World} {base : Nat} {t : TypeId} {g n c : Nat} {l : List α} {F F' : List Nat} (h : OwnC w base t (.slice (some ⟨g, 0, none⟩) n c) l F) {i : Nat} (hi : i < l.length) {a : α} {cs : List Value}
    (hr : Rep.rp w F' a cs) (hg : g ∉ F') : ∃ F1 F2 F3, F = F1 ++ (F2 ++ F3) ∧ OwnC (stores w g (i * Rep.wd α) cs) base t (.slice (some ⟨g, 0, none⟩) n c) (l.set i a) (F1 ++ (F' ++ F3)) := by
  obtain ⟨xs, h1, h2, h3⟩ := h
  have hn : n = l.length := by
    rcases h1.2 with ⟨hv, _⟩ | ⟨_, _, _, hv, _⟩
    · cases hv
    · injection hv
  subst hn
  obtain ⟨F1, F2, F3, hF, he⟩ := Elems.set hr h2 i hi
  have hg1 : g ∉ F := h3 g rfl
  have hg2 : g ∉ F1 ++ (F' ++ F3) := by
    subst hF
    simp only [List.mem_append, not_or] at hg1 ⊢
    exact ⟨hg1.1, hg, hg1.2.2⟩
  have hlen := h2.len
  have hcl : cs.length = Rep.wd α := Rep.len hr
  have hle : i * Rep.wd α + cs.length ≤ xs.length := by
    rw [hlen, hcl]
    calc i * Rep.wd α + Rep.wd α = (i + 1) * Rep.wd α := by rw [Nat.add_mul, Nat.one_mul]
      _ ≤ l.length * Rep.wd α := Nat.mul_le_mul_right _ hi
  refine ⟨F1, F2, F3, hF, _, by rw [List.length_set]; exact ownsRow_stores cs xs w _ h1, ?_, fun g' hg' => ?_⟩
  · rw [splice_eq cs xs _ hle]
    exact he.keep fun b hb => stores_heap_other g cs w _ b (fun e => hg2 (e ▸ hb))
  · simp only [Value.ownBlock, Option.some.injEq] at hg'
    exact hg' ▸ hg2

theorem OwnC.facts {w : World} {base : Nat} {t : TypeId} {g n c : Nat} {l : List α} {F : List Nat} (h : OwnC w base t (.slice (some ⟨g, 0, none⟩) n c) l F) {i j : Nat} (hi : i < l.length) (hj : j < Rep.wd α) :
    (∃ u, w.cell? ⟨g, i * Rep.wd α + j, none⟩ = some u) ∧ w.frozen? ⟨g, i * Rep.wd α + j, none⟩ = false := by
  obtain ⟨xs, h1, h2, h3⟩ := h
  have hn : n = l.length := by
    rcases h1.2 with ⟨hv, _⟩ | ⟨_, _, _, hv, _⟩
    · cases hv
    · injection hv
  subst hn
  have hlt : i * Rep.wd α + j < l.length * Rep.wd α := by
    calc i * Rep.wd α + j < i * Rep.wd α + Rep.wd α := by omega
      _ = (i + 1) * Rep.wd α := by rw [Nat.add_mul, Nat.one_mul]
      _ ≤ l.length * Rep.wd α := Nat.mul_le_mul_right _ hi
  refine ⟨?_, h1.frozenAt _⟩
  rw [h1.cellAt _ hlt]
  exact ⟨_, List.getElem?_eq_getElem (by rw [h2.len]; exact hlt)⟩

/-- The element at i of a row of the call's own. -/
theorem OwnC.at {w : World} {base : Nat} {t : TypeId} {g n c : Nat} {l : List α} {F : List Nat} (h : OwnC w base t (.slice (some ⟨g, 0, none⟩) n c) l F) {i : Nat} (hi : i < l.length) :
    ∃ F' cs, Rep.rp w F' l[i] cs ∧ (∀ b, b ∈ F' → b ∈ F) ∧ CellsAt w g (i * Rep.wd α) cs := by
  obtain ⟨hn, F0, hs, h4⟩ := h.slr
  obtain ⟨xs, h1, h2, h3⟩ := h
  subst hn
  obtain ⟨F', cs, hr, hs', hx⟩ := h2.get i hi
  refine ⟨F', cs, hr, hs', fun j v hj => ?_⟩
  have hj' := hx j v hj
  have hl : i * Rep.wd α + j < xs.length := (List.getElem?_eq_some_iff.1 hj').1
  rw [h1.cellAt _ (by rw [← h2.len]; exact hl)]
  exact hj'

theorem OwnF.facts {w : World} {base : Nat} {t : TypeId} {g n c : Nat} {l : List α} (h : OwnF w base t (.slice (some ⟨g, 0, none⟩) n c) l) {i j : Nat} (hi : i < l.length) (hj : j < Rep.wd α) :
    (∃ u, w.cell? ⟨g, i * Rep.wd α + j, none⟩ = some u) ∧ w.frozen? ⟨g, i * Rep.wd α + j, none⟩ = false := let ⟨_, h1, _⟩ := h; h1.facts hi hj
theorem OwnA.facts {w : World} {base : Nat} {t : TypeId} {g n c : Nat} {l : List α} (h : OwnA w base t (.slice (some ⟨g, 0, none⟩) n c) l) {i j : Nat} (hi : i < l.length) (hj : j < Rep.wd α) :
    (∃ u, w.cell? ⟨g, i * Rep.wd α + j, none⟩ = some u) ∧ w.frozen? ⟨g, i * Rep.wd α + j, none⟩ = false := let ⟨_, h1, _⟩ := h; h1.facts hi hj

theorem OwnF.fact1 {w : World} {base : Nat} {t : TypeId} {g n c : Nat} {l : List α} (hk : Rep.wd α = 1) (h : OwnF w base t (.slice (some ⟨g, 0, none⟩) n c) l) {i : Nat} (hi : i < l.length) :
    (∃ v0, w.cell? ⟨g, i, none⟩ = some v0) ∧ w.frozen? ⟨g, i, none⟩ = false := by
  obtain ⟨⟨v0, g0⟩, f0⟩ := h.facts (j := 0) hi (by omega)
  rw [hk, Nat.mul_one, Nat.add_zero] at g0 f0
  exact ⟨⟨v0, g0⟩, f0⟩
theorem OwnA.fact1 {w : World} {base : Nat} {t : TypeId} {g n c : Nat} {l : List α} (hk : Rep.wd α = 1) (h : OwnA w base t (.slice (some ⟨g, 0, none⟩) n c) l) {i : Nat} (hi : i < l.length) :
    (∃ v0, w.cell? ⟨g, i, none⟩ = some v0) ∧ w.frozen? ⟨g, i, none⟩ = false := by
  obtain ⟨⟨v0, g0⟩, f0⟩ := h.facts (j := 0) hi (by omega)
  rw [hk, Nat.mul_one, Nat.add_zero] at g0 f0
  exact ⟨⟨v0, g0⟩, f0⟩
theorem OwnF.fact2 {w : World} {base : Nat} {t : TypeId} {g n c : Nat} {l : List α} (hk : Rep.wd α = 2) (h : OwnF w base t (.slice (some ⟨g, 0, none⟩) n c) l) {i : Nat} (hi : i < l.length) :
    (∃ v0 v1, w.cell? ⟨g, i * 2, none⟩ = some v0 ∧ w.cell? ⟨g, i * 2 + 1, none⟩ = some v1) ∧ w.frozen? ⟨g, i * 2, none⟩ = false ∧ w.frozen? ⟨g, i * 2 + 1, none⟩ = false := by
  obtain ⟨⟨v0, g0⟩, f0⟩ := h.facts (j := 0) hi (by omega)
  obtain ⟨⟨v1, g1⟩, f1⟩ := h.facts (j := 1) hi (by omega)
  rw [hk] at g0 f0 g1 f1
  exact ⟨⟨v0, v1, g0, g1⟩, f0, f1⟩
theorem OwnA.fact2 {w : World} {base : Nat} {t : TypeId} {g n c : Nat} {l : List α} (hk : Rep.wd α = 2) (h : OwnA w base t (.slice (some ⟨g, 0, none⟩) n c) l) {i : Nat} (hi : i < l.length) :
    (∃ v0 v1, w.cell? ⟨g, i * 2, none⟩ = some v0 ∧ w.cell? ⟨g, i * 2 + 1, none⟩ = some v1) ∧ w.frozen? ⟨g, i * 2, none⟩ = false ∧ w.frozen? ⟨g, i * 2 + 1, none⟩ = false := by
  obtain ⟨⟨v0, g0⟩, f0⟩ := h.facts (j := 0) hi (by omega)
  obtain ⟨⟨v1, g1⟩, f1⟩ := h.facts (j := 1) hi (by omega)
  rw [hk] at g0 f0 g1 f1
  exact ⟨⟨v0, v1, g0, g1⟩, f0, f1⟩
theorem OwnF.fact3 {w : World} {base : Nat} {t : TypeId} {g n c : Nat} {l : List α} (hk : Rep.wd α = 3) (h : OwnF w base t (.slice (some ⟨g, 0, none⟩) n c) l) {i : Nat} (hi : i < l.length) :
    (∃ v0 v1 v2, w.cell? ⟨g, i * 3, none⟩ = some v0 ∧ w.cell? ⟨g, i * 3 + 1, none⟩ = some v1 ∧ w.cell? ⟨g, i * 3 + 1 + 1, none⟩ = some v2) ∧ w.frozen? ⟨g, i * 3, none⟩ = false ∧ w.frozen? ⟨g, i * 3 + 1, none⟩ = false ∧ w.frozen? ⟨g, i * 3 + 1 + 1, none⟩ = false := by
  obtain ⟨⟨v0, g0⟩, f0⟩ := h.facts (j := 0) hi (by omega)
  obtain ⟨⟨v1, g1⟩, f1⟩ := h.facts (j := 1) hi (by omega)
  obtain ⟨⟨v2, g2⟩, f2⟩ := h.facts (j := 2) hi (by omega)
  rw [hk] at g0 f0 g1 f1 g2 f2
  exact ⟨⟨v0, v1, v2, g0, g1, g2⟩, f0, f1, f2⟩
theorem OwnA.fact3 {w : World} {base : Nat} {t : TypeId} {g n c : Nat} {l : List α} (hk : Rep.wd α = 3) (h : OwnA w base t (.slice (some ⟨g, 0, none⟩) n c) l) {i : Nat} (hi : i < l.length) :
    (∃ v0 v1 v2, w.cell? ⟨g, i * 3, none⟩ = some v0 ∧ w.cell? ⟨g, i * 3 + 1, none⟩ = some v1 ∧ w.cell? ⟨g, i * 3 + 1 + 1, none⟩ = some v2) ∧ w.frozen? ⟨g, i * 3, none⟩ = false ∧ w.frozen? ⟨g, i * 3 + 1, none⟩ = false ∧ w.frozen? ⟨g, i * 3 + 1 + 1, none⟩ = false := by
  obtain ⟨⟨v0, g0⟩, f0⟩ := h.facts (j := 0) hi (by omega)
  obtain ⟨⟨v1, g1⟩, f1⟩ := h.facts (j := 1) hi (by omega)
  obtain ⟨⟨v2, g2⟩, f2⟩ := h.facts (j := 2) hi (by omega)
  rw [hk] at g0 f0 g1 f1 g2 f2
  exact ⟨⟨v0, v1, v2, g0, g1, g2⟩, f0, f1, f2⟩
theorem OwnF.fact4 {w : World} {base : Nat} {t : TypeId} {g n c : Nat} {l : List α} (hk : Rep.wd α = 4) (h : OwnF w base t (.slice (some ⟨g, 0, none⟩) n c) l) {i : Nat} (hi : i < l.length) :
    (∃ v0 v1 v2 v3, w.cell? ⟨g, i * 4, none⟩ = some v0 ∧ w.cell? ⟨g, i * 4 + 1, none⟩ = some v1 ∧ w.cell? ⟨g, i * 4 + 1 + 1, none⟩ = some v2 ∧ w.cell? ⟨g, i * 4 + 1 + 1 + 1, none⟩ = some v3) ∧ w.frozen? ⟨g, i * 4, none⟩ = false ∧ w.frozen? ⟨g, i * 4 + 1, none⟩ = false ∧ w.frozen? ⟨g, i * 4 + 1 + 1, none⟩ = false ∧ w.frozen? ⟨g, i * 4 + 1 + 1 + 1, none⟩ = false := by
  obtain ⟨⟨v0, g0⟩, f0⟩ := h.facts (j := 0) hi (by omega)
  obtain ⟨⟨v1, g1⟩, f1⟩ := h.facts (j := 1) hi (by omega)
  obtain ⟨⟨v2, g2⟩, f2⟩ := h.facts (j := 2) hi (by omega)
  obtain ⟨⟨v3, g3⟩, f3⟩ := h.facts (j := 3) hi (by omega)
  rw [hk] at g0 f0 g1 f1 g2 f2 g3 f3
  exact ⟨⟨v0, v1, v2, v3, g0, g1, g2, g3⟩, f0, f1, f2, f3⟩
theorem OwnA.fact4 {w : World} {base : Nat} {t : TypeId} {g n c : Nat} {l : List α} (hk : Rep.wd α = 4) (h : OwnA w base t (.slice (some ⟨g, 0, none⟩) n c) l) {i : Nat} (hi : i < l.length) :
    (∃ v0 v1 v2 v3, w.cell? ⟨g, i * 4, none⟩ = some v0 ∧ w.cell? ⟨g, i * 4 + 1, none⟩ = some v1 ∧ w.cell? ⟨g, i * 4 + 1 + 1, none⟩ = some v2 ∧ w.cell? ⟨g, i * 4 + 1 + 1 + 1, none⟩ = some v3) ∧ w.frozen? ⟨g, i * 4, none⟩ = false ∧ w.frozen? ⟨g, i * 4 + 1, none⟩ = false ∧ w.frozen? ⟨g, i * 4 + 1 + 1, none⟩ = false ∧ w.frozen? ⟨g, i * 4 + 1 + 1 + 1, none⟩ = false := by
  obtain ⟨⟨v0, g0⟩, f0⟩ := h.facts (j := 0) hi (by omega)
  obtain ⟨⟨v1, g1⟩, f1⟩ := h.facts (j := 1) hi (by omega)
  obtain ⟨⟨v2, g2⟩, f2⟩ := h.facts (j := 2) hi (by omega)
  obtain ⟨⟨v3, g3⟩, f3⟩ := h.facts (j := 3) hi (by omega)
  rw [hk] at g0 f0 g1 f1 g2 f2 g3 f3
  exact ⟨⟨v0, v1, v2, v3, g0, g1, g2, g3⟩, f0, f1, f2, f3⟩
theorem OwnF.fact5 {w : World} {base : Nat} {t : TypeId} {g n c : Nat} {l : List α} (hk : Rep.wd α = 5) (h : OwnF w base t (.slice (some ⟨g, 0, none⟩) n c) l) {i : Nat} (hi : i < l.length) :
    (∃ v0 v1 v2 v3 v4, w.cell? ⟨g, i * 5, none⟩ = some v0 ∧ w.cell? ⟨g, i * 5 + 1, none⟩ = some v1 ∧ w.cell? ⟨g, i * 5 + 1 + 1, none⟩ = some v2 ∧ w.cell? ⟨g, i * 5 + 1 + 1 + 1, none⟩ = some v3 ∧ w.cell? ⟨g, i * 5 + 1 + 1 + 1 + 1, none⟩ = some v4) ∧ w.frozen? ⟨g, i * 5, none⟩ = false ∧ w.frozen? ⟨g, i * 5 + 1, none⟩ = false ∧ w.frozen? ⟨g, i * 5 + 1 + 1, none⟩ = false ∧ w.frozen? ⟨g, i * 5 + 1 + 1 + 1, none⟩ = false ∧ w.frozen? ⟨g, i * 5 + 1 + 1 + 1 + 1, none⟩ = false := by
  obtain ⟨⟨v0, g0⟩, f0⟩ := h.facts (j := 0) hi (by omega)
  obtain ⟨⟨v1, g1⟩, f1⟩ := h.facts (j := 1) hi (by omega)
  obtain ⟨⟨v2, g2⟩, f2⟩ := h.facts (j := 2) hi (by omega)
  obtain ⟨⟨v3, g3⟩, f3⟩ := h.facts (j := 3) hi (by omega)
  obtain ⟨⟨v4, g4⟩, f4⟩ := h.facts (j := 4) hi (by omega)
  rw [hk] at g0 f0 g1 f1 g2 f2 g3 f3 g4 f4
  exact ⟨⟨v0, v1, v2, v3, v4, g0, g1, g2, g3, g4⟩, f0, f1, f2, f3, f4⟩
theorem OwnA.fact5 {w : World} {base : Nat} {t : TypeId} {g n c : Nat} {l : List α} (hk : Rep.wd α = 5) (h : OwnA w base t (.slice (some ⟨g, 0, none⟩) n c) l) {i : Nat} (hi : i < l.length) :
    (∃ v0 v1 v2 v3 v4, w.cell? ⟨g, i * 5, none⟩ = some v0 ∧ w.cell? ⟨g, i * 5 + 1, none⟩ = some v1 ∧ w.cell? ⟨g, i * 5 + 1 + 1, none⟩ = some v2 ∧ w.cell? ⟨g, i * 5 + 1 + 1 + 1, none⟩ = some v3 ∧ w.cell? ⟨g, i * 5 + 1 + 1 + 1 + 1, none⟩ = some v4) ∧ w.frozen? ⟨g, i * 5, none⟩ = false ∧ w.frozen? ⟨g, i * 5 + 1, none⟩ = false ∧ w.frozen? ⟨g, i * 5 + 1 + 1, none⟩ = false ∧ w.frozen? ⟨g, i * 5 + 1 + 1 + 1, none⟩ = false ∧ w.frozen? ⟨g, i * 5 + 1 + 1 + 1 + 1, none⟩ = false := by
  obtain ⟨⟨v0, g0⟩, f0⟩ := h.facts (j := 0) hi (by omega)
  obtain ⟨⟨v1, g1⟩, f1⟩ := h.facts (j := 1) hi (by omega)
  obtain ⟨⟨v2, g2⟩, f2⟩ := h.facts (j := 2) hi (by omega)
  obtain ⟨⟨v3, g3⟩, f3⟩ := h.facts (j := 3) hi (by omega)
  obtain ⟨⟨v4, g4⟩, f4⟩ := h.facts (j := 4) hi (by omega)
  rw [hk] at g0 f0 g1 f1 g2 f2 g3 f3 g4 f4
  exact ⟨⟨v0, v1, v2, v3, v4, g0, g1, g2, g3, g4⟩, f0, f1, f2, f3, f4⟩
theorem OwnC.lt {w : World} {base : Nat} {t : TypeId} {g n c : Nat} {l : List α} {F : List Nat} (h : OwnC w base t (.slice (some ⟨g, 0, none⟩) n c) l F) : base ≤ g ∧ g < w.heap.size :=
  let ⟨_, h1, _⟩ := h; h1.lt g rfl
theorem OwnF.lt {w : World} {base : Nat} {t : TypeId} {g n c : Nat} {l : List α} (h : OwnF w base t (.slice (some ⟨g, 0, none⟩) n c) l) : base ≤ g ∧ g < w.heap.size := let ⟨_, h1, _⟩ := h; h1.lt

theorem nodup_three {A B C D : List Nat} (h : (A ++ (B ++ C)).Nodup) (hD : D.Nodup) (hd : ∀ b, b ∈ D → b ∉ A ++ (B ++ C)) : (A ++ (D ++ C)).Nodup := by
  simp only [List.nodup_append, List.mem_append] at h hd ⊢
  obtain ⟨h1, ⟨h2, h3, h4⟩, h5⟩ := h
  refine ⟨h1, ⟨hD, h3, fun a ha b hb e => hd a ha (.inr (.inr (e ▸ hb)))⟩, fun a ha b hb e => ?_⟩
  rcases hb with hb | hb
  · exact hd b hb (.inl (e ▸ ha))
  · exact h5 a ha b (.inr hb) e

/-- A store of an element that a call has just made. w0: ahead of the call. -/
theorem OwnF.stored {w0 w : World} {base : Nat} {t : TypeId} {g n c : Nat} {l : List α} (h : OwnF w0 base t (.slice (some ⟨g, 0, none⟩) n c) l) (hb : Below w0.heap.size w0 w) {i : Nat} (hi : i < l.length) {a : α} {cs : List Value}
    (hr : RF w0.heap.size w a cs) : OwnF (stores w g (i * Rep.wd α) cs) base t (.slice (some ⟨g, 0, none⟩) n c) (l.set i a) := by
  obtain ⟨F, h1, h2⟩ := h
  obtain ⟨F', h3, h4⟩ := hr
  have hg := h1.lt
  have h1' := h1.below (fun b hm => (h2.2 b hm).2.lt) hb
  have h2' := h2.below hb
  have hlt : ∀ b, b ∈ F → b < w0.heap.size := fun b hm => (h2.2 b hm).2.lt
  obtain ⟨F1, F2, F3, hF, h5⟩ := h1'.stored hi h3 (fun hm => by have := (h4.2 g hm).1; omega)
  refine ⟨_, h5, ?_, fun b hm => ?_⟩
  · subst hF
    exact nodup_three h2.1 h4.1 (fun b hb hm => by have := hlt b hm; have := (h4.2 b hb).1; omega)
  · have hbig : base ≤ b ∧ Plain w b := by
      simp only [List.mem_append] at hm
      rcases hm with hm | hm | hm
      · exact h2'.2 b (by rw [hF]; simp [hm])
      · exact ⟨by have := (h4.2 b hm).1; omega, (h4.2 b hm).2⟩
      · exact h2'.2 b (by rw [hF]; simp [hm])
    exact ⟨hbig.1, stores_plain g cs w _ b hbig.2⟩

theorem OwnF.stored1 (hk : Rep.wd α = 1) {w0 w : World} {base : Nat} {t : TypeId} {g n c : Nat} {l : List α} (h : OwnF w0 base t (.slice (some ⟨g, 0, none⟩) n c) l) (hb : Below w0.heap.size w0 w) {i : Nat} (hi : i < l.length) {a : α} {u : Value}
    (hr : RF w0.heap.size w a [u]) : OwnF (w.setCell ⟨g, i, none⟩ u) base t (.slice (some ⟨g, 0, none⟩) n c) (l.set i a) := by
  have := h.stored hb hi hr
  rw [hk, Nat.mul_one] at this
  exact this
theorem OwnF.made1 (hk : Rep.wd α = 1) {z : Value} {a : α} (w : World) (t : TypeId) (n : Nat) (hz : ∀ w, Rep.rp w [] a z.cells.toList) (hn : n ≤ maxLen) :
    OwnF (w.alloc (.cells (madeCells z.cells n) t)) w.heap.size t (.slice (some ⟨w.heap.size, 0, none⟩) n n) (List.replicate n a) := by
  have := OwnF.made w t n hz hn (by rw [hk]; decide)
  rw [hk, Nat.mul_one] at this
  exact this

/-- append of elements that lie at an address, or of none: what becomes of the row. -/
theorem OwnC.grown {w w' : World} {base : Nat} {t : TypeId} {v v' : Value} {l ys : List α} {F F' : List Nat} {xs news : List Value} (h2 : Elems w l F xs) (h3 : ∀ g, v.ownBlock = some g → g ∉ F)
    (hel : Elems w ys F' news) (hF : ∀ g, v.ownBlock = some g → g ∉ F') (hlt : ∀ b, b ∈ F ++ F' → b < w.heap.size)
    (ho : w'.ownsRow base t (Rep.wd α) v' (l.length + ys.length) (xs ++ news)) (hg : w.grownBy w' v.ownBlock) (hat : v'.ownBlock = v.ownBlock ∨ v'.ownBlock = some w.heap.size) : OwnC w' base t v' (l ++ ys) (F ++ F') := by
  have hne : ∀ g, v.ownBlock = some g → g ∉ F ++ F' := fun g hg => by simp only [List.mem_append, not_or]; exact ⟨h3 g hg, hF g hg⟩
  refine ⟨xs ++ news, by rw [List.length_append]; exact ho, (h2.append hel).keep fun b hb => hg.block b (hlt b hb) (fun e => hne b e.symm hb), fun g hgv => ?_⟩
  rcases hat with e | e
  · exact hne g (e ▸ hgv)
  · rw [e] at hgv
    injection hgv with hgv
    intro hm
    have := hlt g hm
    omega

/-- 'append(s, x...)' as a step of a walk. -/
theorem wpList_append_C {P : Program} {w : World} {ops : Array Oper} {rest : List Oper} {o : Oper} {a : Act} {Q : Exit → Act → World → Prop} (hgd : o.guard = none) (s x : Operand) (t : TypeId)
    (ho : o.op = .call { callee := .builtin .append, args := #[s, x], argTypes := #[t, t] }) (base : Nat) (e : TypeId) (z : Value) (bytes : Nat) (ht : P.underlying t = some (.slice e))
    (hinfo : (P.info? e).map (fun i => (i.zero, i.size, i.bytes)) = some (some z, Rep.wd α, bytes)) (hzs : z.cells.size = Rep.wd α) (hsz : 0 < Rep.wd α)
    (v : Value) (l ys : List α) (F F' : List Nat) (news : List Value) (ad : Addr) (c : Nat) (hs : a.eval s = v) (hown : OwnC w base e v l F) (hx : a.eval x = .slice (some ad) ys.length c)
    (hel : Elems w ys F' news) (hcells : ∀ j u, news[j]? = some u → w.cell? (ad.add j) = some u) (hF : ∀ g, v.ownBlock = some g → g ∉ F') (hlt : ∀ b, b ∈ F ++ F' → b < w.heap.size)
    (hbytes : (l.length + ys.length) * bytes ≤ 140737488355328) (h63 : l.length + ys.length ≤ maxLen) (hbase : base ≤ w.heap.size)
    (h : ∀ v' w', OwnC w' base e v' (l ++ ys) (F ++ F') → w.grownBy w' v.ownBlock → wpList P ops Q rest (a.put o.dst v') w') : wpList P ops Q (o :: rest) a w := by
  obtain ⟨i, hi, hz, hsize, hby⟩ := info_parts hinfo
  obtain ⟨xs, h1, h2, h3⟩ := hown
  exact wpList_append_own_at w hgd s x t ho base e i z (Rep.wd α) bytes ht hi hz hsize hby hzs hsz v l.length xs hs h1 ad ys.length c news hx hel.len hcells hel.one h63 hbytes hbase
    (fun v' w' h4 h5 _ h6 => h v' w' (OwnC.grown h2 h3 hel hF hlt h4 h5 h6) h5)
end
end Go.Proofs.Ytblcmajhdndmfaa
