/- Contracts: Fewer, in the program: the copy with its row of losses owned. -/
import Derived.Test.YtblcmajhdndmfaaBends
namespace Go.Proofs.Ytblcmajhdndmfaa
open Go.RowKit
set_option linter.unusedVariables false
set_option maxRecDepth 100000

/-- An out in new memory, its losses a row of the call's own, made behind m. -/
def RetOF (w : World) (o : GOut) (e : Ending) (w' : World) : Prop := ∃ A1 c1 A2 c2 m, e = .returned (.agg #[.slice A1 o.b.length c1, .slice A2 o.l.length c2, .int .i64 o.code]) ∧ w.heap.size ≤ m ∧ m ≤ w'.heap.size ∧
  (∃ F1, SlR w' F1 o.b A1 c1 ∧ Fresh w.heap.size w' F1 ∧ ∀ b, b ∈ F1 → b < m) ∧ OwnF w' m 88 (.slice A2 o.l.length c2) o.l ∧ Below w.heap.size w w'

set_option maxHeartbeats 1000000 in
theorem copyOutF_any (o : GOut) (A A' : Option Addr) (c c' : Nat) (w : World) (hn : bulkOut o ≤ 1048576) (h1 : SA w o.b A c) (h2 : SA w o.l A' c') :
    Calls Try.prog 67 #[.agg #[.slice A o.b.length c, .slice A' o.l.length c', .int .i64 o.code]] w (RetOF w o) := by
  have hn1 : o.b.length ≤ 4194304 := by unfold bulkOut at hn; omega
  have hn2 : bulkLossS o.l ≤ 1048576 := by unfold bulkOut at hn; omega
  have b0 := bAl (bAl (bRf w) (.cells #[.slice A o.b.length c, .slice A' o.l.length c', .int .i64 o.code] 30)) (.cells #[.slice none 0 0, .slice none 0 0, .int .i64 0] 30)
  have E := Lib.hid (And.intro (h1.below b0) (h2.below b0)); clear h1 h2 hn
  have P0 := Lib.hid ((Blk.new w 30 #[.slice A o.b.length c, .slice A' o.l.length c', .int .i64 o.code]).alloc (.cells #[.slice none 0 0, .slice none 0 0, .int .i64 0] 30))
  have P1 := Lib.hid (Blk.at (w := w.alloc (.cells #[.slice A o.b.length c, .slice A' o.l.length c', .int .i64 o.code] 30)) (g := w.heap.size + 1) (t := 30) (cs := #[.slice none 0 0, .slice none 0 0, .int .i64 0]) (by simp))
  have B0 := Lib.hid b0; clear b0
  go_enter Try.func67, Try.ntmps67
  go_wp2_with fail
  go_region_held3 (fun u => u.cell? ⟨w.heap.size, 0, none⟩ = some (.slice A o.b.length c) ∧ u.cell? ⟨w.heap.size, 1, none⟩ = some (.slice A' o.l.length c') ∧ u.cell? ⟨w.heap.size, 2, none⟩ = some (.int .i64 o.code)) (go_keep)
    (first
      | (go_at_call 100; (refine (cloneByte_any o.b A c _ hn1 E.out.1.drew).mono ?_; rintro e w1 ⟨A1, c1, rfl, hs1, hb1⟩; have HB1 := Lib.hid hb1; have HP1 := Lib.hid (P0.out.drew.below hb1); have HQ1 := Lib.hid (P1.out.drew.below hb1); have HS1 := Lib.hid hs1; obtain ⟨x0, x1, x2⟩ := HP1.out.c3; clear hs1 hb1))
      | (go_at_call 101; (refine (copyLossesF_any o.l A' c' _ hn2 (E.out.2.drew.below HB1.out)).mono ?_; rintro e w2 ⟨A2, c2, rfl, hs2, hb2⟩; have HB2 := Lib.hid hb2; have HP2 := Lib.hid (HP1.out.below hb2); have HQ2 := Lib.hid (HQ1.out.below hb2); have HS2 := Lib.hid hs2; obtain ⟨x0, x1, x2⟩ := HP2.out.c3; obtain ⟨y0, y1, y2⟩ := HQ2.out.c3; have f0 := HQ2.out.frozen 0; have f1 := HQ2.out.frozen 1; have f2 := HQ2.out.frozen 2; have hz := HQ2.out.lt; clear hs2 hb2)))
  go_wp2_with fail
  refine bodyPost_ret (v := .agg #[.slice A1 o.b.length c1, .slice A2 o.l.length c2, .int .i64 o.code]) (by simp [results, Try.results67, go_sem, *]) rfl ?_
  have hk : ∀ b, w.heap.size + 1 + 1 ≤ b → (((w2.setCell ⟨w.heap.size + 1, 0, none⟩ (.slice A1 o.b.length c1)).setCell ⟨w.heap.size + 1, 1, none⟩ (.slice A2 o.l.length c2)).setCell ⟨w.heap.size + 1, 2, none⟩ (.int .i64 o.code)).heap[b]? = w2.heap[b]? := fun b hb => by
    rw [Below.heap_setCell _ _ _ _ (by simp; omega), Below.heap_setCell _ _ _ _ (by simp; omega), Below.heap_setCell _ _ _ _ (by simp; omega)]
  have hw1 : w.heap.size + 1 + 1 ≤ w1.heap.size := by have := HB1.out.size; simp at this; omega
  refine ⟨A1, c1, A2, c2, w1.heap.size, rfl, by omega, by have := HB2.out.size; simp [World.setCell]; omega, ?_, ?_, ?_⟩
  · obtain ⟨F1, h3, h4⟩ := HS1.out
    have hF : ∀ b, b ∈ F1 → w.heap.size + 1 + 1 ≤ b ∧ b < w1.heap.size := fun b hb => ⟨by have := (h4.2 b hb).1; simp at this; omega, (h4.2 b hb).2.lt⟩
    have hk2 : ∀ b, b ∈ F1 → (((w2.setCell ⟨w.heap.size + 1, 0, none⟩ (.slice A1 o.b.length c1)).setCell ⟨w.heap.size + 1, 1, none⟩ (.slice A2 o.l.length c2)).setCell ⟨w.heap.size + 1, 2, none⟩ (.int .i64 o.code)).heap[b]? = w1.heap[b]? := fun b hb => (hk b (hF b hb).1).trans (HB2.out.block b (hF b hb).2)
    exact ⟨F1, h3.keep hk2, (h4.keep hk2).mono (by simp; omega), fun b hb => (hF b hb).2⟩
  · exact ((HS2.out.set (p := ⟨w.heap.size + 1, 0, none⟩) (by simp; omega) _).set (p := ⟨w.heap.size + 1, 1, none⟩) (by simp; omega) _).set (p := ⟨w.heap.size + 1, 2, none⟩) (by simp; omega) _
  · refine Below.setCell (Below.setCell (Below.setCell (bTr (bTr B0.out.drew HB1.out) HB2.out) ?_ _) ?_ _) ?_ _
    all_goals (simp; try omega)

section
variable {α : Type} [Rep α]
theorem SS.take {w : World} {S : Nat → Prop} {l : List α} {A : Option Addr} {c : Nat} (h : SS w S l A c) (k : Nat) (hk : k ≤ l.length) : SS w S (l.take k) A c := by
  obtain ⟨F, ⟨h1, h2, h3⟩, hF⟩ := h
  rcases h3 with ⟨rfl, rfl, hz⟩ | ⟨b, off, F', xs, hA, rfl, he, hc⟩
  · exact ⟨[], ⟨by simp, h2, .inl ⟨by simp, rfl, hz⟩⟩, by simp⟩
  · rw [← List.take_append_drop k l] at he
    obtain ⟨F1, F2, x1, x2, rfl, rfl, he1, _⟩ := he.split
    refine ⟨b :: F1, ⟨by simp; omega, h2, .inr ⟨b, off, F1, x1, hA, rfl, he1, fun j v hj => ?_⟩⟩, fun x hx => hF x ?_⟩
    · exact hc j v (by rw [List.getElem?_append_left (List.getElem?_eq_some_iff.1 hj).1]; exact hj)
    · simp only [List.mem_cons, List.mem_append] at hx ⊢
      rcases hx with rfl | hx
      · exact .inl rfl
      · exact .inr (.inl hx)
theorem SS.drop {w : World} {S : Nat → Prop} {l : List α} {b off c : Nat} (h : SS w S l (some ⟨b, off, none⟩) c) (k : Nat) (hk : k ≤ l.length) : SS w S (l.drop k) (some ⟨b, off + k * Rep.wd α, none⟩) (c - k) := by
  obtain ⟨F, ⟨h1, h2, h3⟩, hF⟩ := h
  rcases h3 with ⟨rfl, rfl, hz⟩ | ⟨b', off', F', xs, hA, rfl, he, hc⟩
  · exact ⟨[], ⟨by simp, by omega, .inl ⟨by simp, rfl, fun h => by cases h⟩⟩, by simp⟩
  · injection hA with hA; injection hA with e1 e2
    subst e1 e2
    rw [← List.take_append_drop k l] at he
    obtain ⟨F1, F2, x1, x2, rfl, rfl, he1, he2⟩ := he.split
    have hx1 := he1.len
    rw [List.length_take, Nat.min_eq_left hk] at hx1
    refine ⟨b :: F2, ⟨by simp; omega, by omega, .inr ⟨b, _, F2, x2, rfl, rfl, he2, ?_⟩⟩, fun x hx => hF x ?_⟩
    · refine hc.sub fun j v hj => ?_
      rw [List.getElem?_append_right (by omega), ← hj]
      congr 1; omega
    · simp only [List.mem_cons, List.mem_append] at hx ⊢
      rcases hx with rfl | hx
      · exact .inl rfl
      · exact .inr (.inr hx)
end

/-- An out without one of its losses. -/
def fewerO (o : GOut) (i : Int) : GOut := if 0 ≤ i ∧ i ≤ (o.l.length : Int) - 1 then { o with l := o.l.eraseIdx i.toNat } else o
theorem fewerO_bulk (o : GOut) (i : Int) : bulkOut (fewerO o i) ≤ bulkOut o := by
  unfold fewerO
  split
  · have hs : ∀ (l : List GLoss) (j : Nat), bulkLossS (l.eraseIdx j) ≤ bulkLossS l := by
      intro l
      induction l with
      | nil => intro j; simp [bulkLossS]
      | cons x l ih =>
        intro j
        cases j with
        | zero => simp [bulkLossS, bulkLoss]; omega
        | succ j => have := ih j; simp [bulkLossS, bulkLoss] at this ⊢; omega
    have := hs o.l i.toNat
    simp [bulkOut]; omega
  · omega
end Go.Proofs.Ytblcmajhdndmfaa
