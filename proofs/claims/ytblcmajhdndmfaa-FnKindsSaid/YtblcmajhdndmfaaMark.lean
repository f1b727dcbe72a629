/- Marks: every cell of a result turned into a number of its own. No program in sight. -/
import Derived.Test.YtblcmajhdndmfaaData
namespace Go.Proofs.Ytblcmajhdndmfaa
open Go.RowKit
set_option linter.unusedVariables false
set_option maxRecDepth 100000

/-- Nothing has turned but the blocks F. -/
def Kept (F : List Nat) (w w' : World) : Prop := w'.os = w.os ∧ w'.tape = w.tape ∧ w'.output = w.output ∧ w.heap.size ≤ w'.heap.size ∧ ∀ b, b < w.heap.size → b ∉ F → w'.heap[b]? = w.heap[b]?
theorem Kept.refl (F : List Nat) (w : World) : Kept F w w := ⟨rfl, rfl, rfl, Nat.le_refl _, fun _ _ _ => rfl⟩
theorem Kept.trans {F : List Nat} {a b c : World} (h : Kept F a b) (k : Kept F b c) : Kept F a c :=
  ⟨k.1.trans h.1, k.2.1.trans h.2.1, k.2.2.1.trans h.2.2.1, Nat.le_trans h.2.2.2.1 k.2.2.2.1, fun x hx hF => (k.2.2.2.2 x (Nat.lt_of_lt_of_le hx h.2.2.2.1) hF).trans (h.2.2.2.2 x hx hF)⟩
theorem Kept.mono {F F' : List Nat} {w w' : World} (h : Kept F w w') (hF : ∀ b, b ∈ F → b ∈ F') : Kept F' w w' := ⟨h.1, h.2.1, h.2.2.1, h.2.2.2.1, fun b hb hn => h.2.2.2.2 b hb fun hm => hn (hF b hm)⟩
theorem Kept.of_below {F : List Nat} {w w' : World} (h : Below w.heap.size w w') : Kept F w w' := ⟨h.os, h.tape, h.output, h.size, fun b hb _ => h.block b hb⟩
theorem Kept.below {F : List Nat} {w w' : World} {base : Nat} (h : Kept F w w') (hb : base ≤ w.heap.size) (hF : ∀ b, b ∈ F → base ≤ b) : Below base w w' :=
  ⟨h.1, h.2.1, h.2.2.1, h.2.2.2.1, fun b hlt => h.2.2.2.2 b (by omega) fun hm => by have := hF b hm; omega⟩
theorem Kept.set {F : List Nat} {w : World} {p : Addr} (hp : p.block ∈ F) (u : Value) : Kept F w (w.setCell p u) :=
  ⟨rfl, rfl, rfl, by simp [World.setCell], fun b _ hn => Below.heap_setCell w p u b (fun e => hn (e ▸ hp))⟩

section
variable {α : Type} [Rep α]
def MarkS (base g off : Nat) (done rest : List α) (F : List Nat) (w : World) : Prop :=
  ∃ F1 F2 x1 x2, F = F1 ++ F2 ∧ Elems w done F1 x1 ∧ Elems w rest F2 x2 ∧ CellsAt w g off (x1 ++ x2) ∧ Fresh base w (g :: F)
variable {base g off c : Nat} {done rest : List α} {F : List Nat} {w w' : World}
theorem MarkS.fresh (h : MarkS base g off done rest F w) : Fresh base w (g :: F) := let ⟨_, _, _, _, _, _, _, _, h⟩ := h; h
theorem MarkS.start {l : List α} (h : SlR w (g :: F) l (some ⟨g, off, none⟩) c) (hF : Fresh base w (g :: F)) : MarkS base g off [] l F w := by
  obtain ⟨_, _, h3⟩ := h
  rcases h3 with ⟨_, h4, _⟩ | ⟨b, o, F', xs, hA, hF', he, hc⟩
  · cases h4
  · injection hA with hA; injection hA with e1 e2
    subst e1 e2
    injection hF' with _ e3
    subst e3
    exact ⟨[], F, [], xs, rfl, ⟨rfl, rfl⟩, he, hc, hF⟩
theorem MarkS.finish (h : MarkS base g off done [] F w) (hl : done.length ≤ c) (hc : c ≤ maxLen) : SlR w (g :: F) done (some ⟨g, off, none⟩) c := by
  obtain ⟨F1, F2, x1, x2, rfl, h1, ⟨rfl, rfl⟩, h3, h4⟩ := h
  rw [List.append_nil] at h3 h4 ⊢
  exact ⟨hl, hc, .inr ⟨g, off, F1, x1, rfl, rfl, h1, h3⟩⟩
theorem MarkS.below (h : MarkS base g off done rest F w) (hb : Below w.heap.size w w') : MarkS base g off done rest F w' := by
  obtain ⟨F1, F2, x1, x2, rfl, h1, h2, h3, h4⟩ := h
  have hlt : ∀ b, b ∈ g :: (F1 ++ F2) → b < w.heap.size := fun b hm => (h4.2 b hm).2.lt
  exact ⟨F1, F2, x1, x2, rfl, h1.keep fun b hm => hb.block b (hlt b (by simp [hm])), h2.keep fun b hm => hb.block b (hlt b (by simp [hm])), h3.keep (hb.block g (hlt g (by simp))), h4.below hb⟩

/-- The next element, and what becomes of the row where it alone is turned. -/
theorem MarkS.head {a : α} (h : MarkS base g off done (a :: rest) F w) : ∃ Fa cs, Rep.rp w Fa a cs ∧ CellsAt w g (off + done.length * Rep.wd α) cs ∧ (∀ b, b ∈ Fa → b ∈ F) ∧ g ∉ Fa ∧ Fresh base w Fa ∧
    ∀ (w' : World) (a' : α) (cs' : List Value), Rep.rp w' Fa a' cs' → CellsAt w' g (off + done.length * Rep.wd α) cs' → (∀ j, (j < off + done.length * Rep.wd α ∨ off + done.length * Rep.wd α + Rep.wd α ≤ j) → w'.cell? ⟨g, j, none⟩ = w.cell? ⟨g, j, none⟩) →
      (∀ b, b < w.heap.size → b ≠ g → b ∉ Fa → w'.heap[b]? = w.heap[b]?) → (∀ b, b ∈ g :: Fa → Plain w' b) → MarkS base g off (done ++ [a']) rest F w' := by
  obtain ⟨F1, F2, x1, x2, rfl, h1, ⟨Fa, F3, cs, ys, rfl, rfl, hr, h2⟩, h3, h4⟩ := h
  have hnd := h4.1
  rw [List.nodup_cons] at hnd
  obtain ⟨hg, hnd⟩ := hnd
  have hx1 := h1.len
  have hcl : cs.length = Rep.wd α := Rep.len hr
  refine ⟨Fa, cs, hr, ?_, fun b hb => by simp [hb], fun hm => hg (by simp [hm]), ⟨?_, fun b hb => h4.2 b (by simp [hb])⟩, ?_⟩
  · refine h3.sub fun j v hj => ?_
    have hjl : j < cs.length := (List.getElem?_eq_some_iff.1 hj).1
    rw [List.getElem?_append_right (by omega), List.getElem?_append_left (by omega), ← hj]
    congr 1; omega
  · simp only [List.nodup_append] at hnd; exact hnd.2.1.1
  · intro w' a' cs' hr' hc' hcell hblk hpl
    have hcl' : cs'.length = Rep.wd α := Rep.len hr'
    have hlt : ∀ b, b ∈ g :: (F1 ++ (Fa ++ F3)) → b < w.heap.size := fun b hm => (h4.2 b hm).2.lt
    simp only [List.nodup_append, List.mem_append] at hnd
    have hk1 : ∀ b, b ∈ F1 → w'.heap[b]? = w.heap[b]? := fun b hb => hblk b (hlt b (by simp [hb])) (fun e => hg (by simp [← e, hb])) (fun hm => hnd.2.2 b hb b (.inl hm) rfl)
    have hk3 : ∀ b, b ∈ F3 → w'.heap[b]? = w.heap[b]? := fun b hb => hblk b (hlt b (by simp [hb])) (fun e => hg (by simp [← e, hb])) (fun hm => hnd.2.1.2.2 b hm b hb rfl)
    refine ⟨F1 ++ Fa, F3, x1 ++ cs', ys, by simp, (h1.keep hk1).snoc hr', h2.keep hk3, fun j v hj => ?_, ⟨h4.1, fun b hb => ⟨(h4.2 b hb).1, ?_⟩⟩⟩
    · by_cases hj1 : j < x1.length
      · rw [List.append_assoc, List.getElem?_append_left hj1] at hj
        rw [hcell (off + j) (.inl (by omega))]
        exact h3 j v (by rw [List.getElem?_append_left hj1]; exact hj)
      · by_cases hj2 : j < x1.length + cs'.length
        · rw [List.append_assoc, List.getElem?_append_right (by omega), List.getElem?_append_left (by omega)] at hj
          have := hc' (j - x1.length) v hj
          rwa [show off + done.length * Rep.wd α + (j - x1.length) = off + j by omega] at this
        · rw [List.append_assoc, List.getElem?_append_right (by omega), List.getElem?_append_right (by omega)] at hj
          rw [hcell (off + j) (.inr (by omega))]
          refine h3 j v ?_
          rw [List.getElem?_append_right (by omega), List.getElem?_append_right (by omega), ← hj]
          congr 1; omega
    · by_cases hm : b ∈ g :: Fa
      · exact hpl b hm
      · simp only [List.mem_cons, not_or] at hm
        exact (h4.2 b hb).2.keep (hblk b (hlt b hb) hm.1 hm.2)
end

theorem Plain.frozen {w : World} {b : Nat} (h : Plain w b) (i : Nat) : w.frozen? ⟨b, i, none⟩ = false := by
  obtain ⟨cs, t, h⟩ := h
  exact Blk.frozen (t := t) (cs := cs) h i
theorem cell_set_ne (w : World) (g i j : Nat) (u : Value) (h : j ≠ i) : (w.setCell ⟨g, i, none⟩ u).cell? ⟨g, j, none⟩ = w.cell? ⟨g, j, none⟩ := by
  refine World.cell?_setCell_other (a := ⟨g, i, none⟩) (b := ⟨g, j, none⟩) (v := u) (w := w) ?_
  intro e
  injection e with _ e
  exact h e.symm
theorem cell_set_eq (w : World) (g i : Nat) (u v : Value) (h : w.cell? ⟨g, i, none⟩ = some v) : (w.setCell ⟨g, i, none⟩ u).cell? ⟨g, i, none⟩ = some u :=
  World.cell?_setCell_same (w := w) (a := ⟨g, i, none⟩) (v := u) (u := v) h

/- The marks, in their order. -/
def byteOf (n : Int) : UInt8 := UInt8.ofNat (n % 256).toNat
theorem byteOf_val (n : Int) : ((byteOf n).toNat : Int) = n % 256 := by
  unfold byteOf
  rw [UInt8.toNat_ofNat_of_lt' (by simp [UInt8.size]; omega)]
  omega
def markB : Int → List UInt8 → List UInt8
  | _, [] => []
  | k, _ :: l => byteOf k :: markB (k + 1) l
def markSt : Int → List GStep → List GStep
  | _, [] => []
  | k, _ :: l => ⟨k, (k + 1) % 3 == 0⟩ :: markSt (k + 2) l
def cntL (l : List GLoss) : Nat := (l.map fun x => 1 + 2 * x.p.length).sum
def markL : Int → List GLoss → List GLoss
  | _, [] => []
  | k, x :: l => ⟨k, markSt (k + 1) x.p⟩ :: markL (k + 1 + 2 * x.p.length) l
def markO (k : Int) (o : GOut) : GOut := ⟨markB k o.b, markL (k + o.b.length) o.l, o.code⟩
def cntO (o : GOut) : Nat := o.b.length + cntL o.l
theorem markB_len : ∀ (l : List UInt8) (k : Int), (markB k l).length = l.length
  | [], _ => rfl
  | _ :: l, k => by simp [markB, markB_len l]
theorem markSt_len : ∀ (l : List GStep) (k : Int), (markSt k l).length = l.length
  | [], _ => rfl
  | _ :: l, k => by simp [markSt, markSt_len l]
theorem markL_len : ∀ (l : List GLoss) (k : Int), (markL k l).length = l.length
  | [], _ => rfl
  | _ :: l, k => by simp [markL, markL_len l]
theorem cntL_le (l : List GLoss) : cntL l ≤ 2 * bulkLossS l := by
  unfold cntL bulkLossS
  induction l with
  | nil => simp
  | cons x l ih => simp only [List.map_cons, List.sum_cons, List.length_cons, bulkLoss] at ih ⊢; omega
theorem SlR.plain_block {α : Type} [Rep α] {w : World} {F : List Nat} {l : List α} {A : Option Addr} {c : Nat} (h : SlR w F l A c) (hl : 0 < l.length) : ∃ g off F', A = some ⟨g, off, none⟩ ∧ F = g :: F' := by
  rcases h.2.2 with ⟨rfl, _⟩ | ⟨b, off, F', xs, hA, hF, _⟩
  · simp at hl
  · exact ⟨b, off, F', hA, hF⟩
end Go.Proofs.Ytblcmajhdndmfaa
