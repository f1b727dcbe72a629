/- An element taken out of a row of the call's own, in place. No program in sight. -/
import Derived.Test.YtblcmajhdndmfaaApp
import Derived.Deep.DeepAppendRoom
import Derived.Laws.IdiomCopy
namespace Go.Proofs.Ytblcmajhdndmfaa
open Go.RowKit
set_option linter.unusedVariables false
set_option maxRecDepth 100000

theorem ownsRow_prefix {w : World} {base : Nat} {t : TypeId} {size n k g c : Nat} {xs : List Value} (h : w.ownsRow base t size (.slice (some ⟨g, 0, none⟩) n c) n xs) (hk : k ≤ n) : w.ownsRow base t size (.slice (some ⟨g, 0, none⟩) k c) k (xs.take (k * size)) := by
  obtain ⟨h1, h2⟩ := h
  have hks : k * size ≤ n * size := Nat.mul_le_mul_right _ hk
  rcases h2 with ⟨hv, _⟩ | ⟨g', cap, cur, hv, hb, hh, hn, hm, hs, ht⟩
  · cases hv
  · cases hv
    refine ⟨by rw [List.length_take]; omega, .inr ⟨g, c, cur, rfl, hb, hh, by omega, hm, hs, ?_⟩⟩
    rw [← ht, List.take_take, Nat.min_eq_left hks]
theorem ownsRow_beyond {w : World} {base : Nat} {t : TypeId} {size n g c off : Nat} {xs : List Value} (h : w.ownsRow base t size (.slice (some ⟨g, 0, none⟩) n c) n xs) (ho : n * size ≤ off) (u : Value) : (w.setCell ⟨g, off, none⟩ u).ownsRow base t size (.slice (some ⟨g, 0, none⟩) n c) n xs := by
  obtain ⟨h1, h2⟩ := h
  rcases h2 with ⟨hv, _⟩ | ⟨g', cap, cur, hv, hb, hh, hn, hm, hs, ht⟩
  · cases hv
  · cases hv
    refine ⟨h1, .inr ⟨g, c, cur.setIfInBounds off u, rfl, hb, ?_, hn, hm, by simpa using hs, ?_⟩⟩
    · simp [World.setCell, Array.getElem?_modify, hh]
    · rw [Array.toList_setIfInBounds, ← ht, List.take_set]
      exact List.set_eq_of_length_le (by rw [List.length_take]; omega)
theorem ownsRow_beyonds {base : Nat} {t : TypeId} {size n g c : Nat} {xs : List Value} : ∀ (cs : List Value) (w : World) (off : Nat), w.ownsRow base t size (.slice (some ⟨g, 0, none⟩) n c) n xs → n * size ≤ off → (w.setCells g off cs).ownsRow base t size (.slice (some ⟨g, 0, none⟩) n c) n xs
  | [], _, _, h, _ => h
  | u :: cs, w, off, h, ho => ownsRow_beyonds cs _ (off + 1) (ownsRow_beyond h ho u) (by omega)
theorem ownsRow_room {w : World} {base : Nat} {t : TypeId} {size n k g c : Nat} {xs : List Value} (h : w.ownsRow base t size (.slice (some ⟨g, 0, none⟩) n c) n xs) (hk : k < c * size) : (∃ u, w.cell? ⟨g, k, none⟩ = some u) ∧ w.frozen? ⟨g, k, none⟩ = false := by
  obtain ⟨h1, h2⟩ := h
  rcases h2 with ⟨hv, _⟩ | ⟨g', cap, cur, hv, hb, hh, hn, hm, hs, ht⟩
  · cases hv
  · cases hv
    refine ⟨?_, by simp [World.frozen?, hh]⟩
    rw [cell_of_row w g k cur t (0, 0) hh]
    exact ⟨_, Array.getElem?_eq_getElem (by omega)⟩
theorem setCells_other (g : Nat) : ∀ (cs : List Value) (w : World) (off b : Nat), b ≠ g → (w.setCells g off cs).heap[b]? = w.heap[b]?
  | [], _, _, _, _ => rfl
  | c :: cs, w, off, b, hb => (setCells_other g cs _ (off + 1) b hb).trans (Below.heap_setCell w ⟨g, off, none⟩ c b hb)
theorem setCells_grown (g : Nat) : ∀ (cs : List Value) (w : World) (off : Nat), w.grownBy (w.setCells g off cs) (some g) := by
  intro cs
  induction cs with
  | nil => intro w off; exact ⟨rfl, rfl, rfl, Nat.le_refl _, fun _ _ _ => rfl⟩
  | cons c cs ih =>
    intro w off
    obtain ⟨h1, h2, h3, h4, h5⟩ := ih (w.setCell ⟨g, off, none⟩ c) (off + 1)
    refine ⟨h1, h2, h3, by simp [World.setCell] at h4; exact h4, fun k hk hne => ?_⟩
    rw [World.setCells, h5 k (by simpa [World.setCell] using hk) hne]
    exact Below.heap_setCell w ⟨g, off, none⟩ c k (fun e => hne (by rw [e]))

theorem run_clear_one {P : Program} (w : World) (t e ty : TypeId) (z : Value) (us : List Value) (ht : P.underlying t = some (.slice e)) (hv : ∀ w, (zeroValue e).run P w = .ok z w) (hz : z.cells.toList = us) (h1 : ∀ u, u ∈ us → u.oneCell' = true) (b o c : Nat)
    (hc : ∀ j, j < us.length → (w.cell? ⟨b, o + j, none⟩).isSome = true) (hf : ∀ j, j < us.length → w.frozen? ⟨b, o + j, none⟩ = false) :
    (Builtin.clear_ #[t] ty #[.slice (some ⟨b, o, none⟩) 1 c]).run P w = .ok (.tuple #[]) (w.setCells b o us) := by
  have hzc : (Builtin.zeroCells z.cells 1).toList = us := by
    rw [← hz]
    simp only [Builtin.zeroCells]
    apply List.ext_getElem
    · simp
    · intro i h1 h2
      have hi : i < z.cells.size := by simpa using h2
      simp [Nat.mod_eq_of_lt hi, hi]
  have hst := run_storeCells_cells (P := P) b o us 0 w (by simpa using hc) (by simpa using hf) h1
  simp only [Nat.add_zero] at hst
  simp [Builtin.clear_, run_underlying ht, hv, hzc, hst]

section
variable {α : Type} [Rep α] {P : Program}
/-- The element j is taken out: the append that closes the gap, and what is owned behind it, whatever is written behind the shorter row. -/
theorem OwnF.cut1 (t ty e : TypeId) (z : Value) (bytes : Nat) (ht : P.underlying t = some (.slice e)) (hinfo : (P.info? e).map (fun i => (i.zero, i.size, i.bytes)) = some (some z, Rep.wd α, bytes))
    {w : World} {base g c : Nat} {l : List α} {F : List Nat} (hC : OwnC w base e (.slice (some ⟨g, 0, none⟩) l.length c) l F) (h4 : Fresh base w F) {j : Nat} (hj : j < l.length) :
    ∃ w1, (Builtin.append_ #[t, t] ty #[.slice (some ⟨g, 0, none⟩) j c, .slice (if c = j + 1 then some ⟨g, 0, none⟩ else some ⟨g, (j + 1) * Rep.wd α, none⟩) (l.length - (j + 1)) (c - (j + 1))]).run P w = .ok (.slice (some ⟨g, 0, none⟩) (l.length - 1) c) w1 ∧ w.grownBy w1 (some g) ∧
      (∀ k, k < c * Rep.wd α → (∃ u, w1.cell? ⟨g, k, none⟩ = some u) ∧ w1.frozen? ⟨g, k, none⟩ = false) ∧ ∀ cs, ∃ F', OwnC (w1.setCells g ((l.length - 1) * Rep.wd α) cs) base e (.slice (some ⟨g, 0, none⟩) (l.length - 1) c) (l.eraseIdx j) F' ∧ Fresh base (w1.setCells g ((l.length - 1) * Rep.wd α) cs) F' ∧ ∀ b, b ∈ F' → b ∈ F := by
  obtain ⟨i, hi, hz, hsize, hby⟩ := info_parts hinfo
  obtain ⟨xs, h1, h2, h3⟩ := hC
  have hc1 : l.length ≤ c := by
    rcases h1.2 with ⟨hv, _⟩ | ⟨g', cap, cur, hv, hb, hh, hn, hm, hs, ht⟩
    · cases hv
    · cases hv; exact hn
  have e1 : l = l.take j ++ (l[j] :: l.drop (j + 1)) := by rw [← List.drop_eq_getElem_cons hj, List.take_append_drop]
  have h2' := h2
  rw [e1] at h2'
  obtain ⟨F1, F2, x1, x2, rfl, rfl, h5, F3, F4, x3, x4, rfl, rfl, h6, h7⟩ := h2'.split
  have hx1 : x1.length = j * Rep.wd α := by rw [h5.len, List.length_take, Nat.min_eq_left (by omega)]
  have hx3 : x3.length = Rep.wd α := Rep.len h6
  have hx4 : x4.length = (l.length - (j + 1)) * Rep.wd α := by rw [h7.len, List.length_drop]
  have hmul : (j + 1) * Rep.wd α = j * Rep.wd α + Rep.wd α := by rw [Nat.add_mul, Nat.one_mul]
  have hpre := ownsRow_prefix h1 (k := j) (by omega)
  rw [← hx1, List.take_left] at hpre
  have hcell : ∀ k v, x4[k]? = some v → w.cell? ⟨g, (j + 1) * Rep.wd α + k, none⟩ = some v := fun k v hk => by
    have hkl : k < x4.length := (List.getElem?_eq_some_iff.1 hk).1
    have hl1 := h1.1
    simp only [List.length_append] at hl1
    rw [h1.cellAt _ (by omega), List.getElem?_append_right (by omega), List.getElem?_append_right (by omega), ← hk]
    congr 1; omega
  have hn1 : j + (l.length - (j + 1)) = l.length - 1 := by omega
  obtain ⟨ad, had, hnews⟩ : ∃ ad : Addr, (if c = j + 1 then some ⟨g, 0, none⟩ else some ⟨g, (j + 1) * Rep.wd α, none⟩) = some ad ∧ ∀ k u, x4[k]? = some u → w.cell? (ad.add k) = some u := by
    by_cases hcj : c = j + 1
    · refine ⟨⟨g, 0, none⟩, if_pos hcj, fun k u hk => ?_⟩
      have hkl : k < x4.length := (List.getElem?_eq_some_iff.1 hk).1
      rw [hx4, show l.length - (j + 1) = 0 by omega, Nat.zero_mul] at hkl
      omega
    · refine ⟨⟨g, (j + 1) * Rep.wd α, none⟩, if_neg hcj, fun k u hk => ?_⟩
      have ea : (⟨g, (j + 1) * Rep.wd α, none⟩ : Addr).add k = ⟨g, (j + 1) * Rep.wd α + k, none⟩ := by
        unfold Addr.add; split
        · rename_i h; subst h; rfl
        · rfl
      rw [ea]; exact hcell k u hk
  rw [had]
  obtain ⟨w1, hrun, ho, hg⟩ := run_append_own_spare (P := P) w base t ty e i (Rep.wd α) ht hi hsize g j c x1 hpre ad (l.length - (j + 1)) (c - (j + 1)) x4 hx4 hnews (fun u hu => h7.one u hu) (by omega)
  rw [hn1] at hrun ho
  refine ⟨w1, hrun, hg, fun k hk => ownsRow_room ho hk, fun cs => ?_⟩
  have hgF : g ∉ F1 ++ (F3 ++ F4) := h3 g rfl
  simp only [List.mem_append, not_or] at hgF
  have hk : ∀ b, b ∈ F1 ++ F4 → (w1.setCells g ((l.length - 1) * Rep.wd α) cs).heap[b]? = w.heap[b]? := fun b hb => by
    have hbg : b ≠ g := fun e => by
      subst e
      rcases List.mem_append.1 hb with hb | hb
      · exact hgF.1 hb
      · exact hgF.2.2 hb
    have hbl : b < w.heap.size := (h4.2 b (by
      rcases List.mem_append.1 hb with hb | hb
      · simp [hb]
      · simp [hb])).2.lt
    rw [setCells_other _ _ _ _ _ hbg]
    exact hg.block b hbl (fun e => hbg (by injection e))
  have hel : l.eraseIdx j = l.take j ++ l.drop (j + 1) := List.eraseIdx_eq_take_drop_succ ..
  have hlen : (l.eraseIdx j).length = l.length - 1 := by rw [List.length_eraseIdx, if_pos hj]
  refine ⟨F1 ++ F4, ⟨x1 ++ x4, ?_, ?_, fun g' hg' => ?_⟩, ⟨?_, fun b hb => ⟨(h4.2 b ?_).1, ((h4.2 b ?_).2.keep (hk b hb))⟩⟩, fun b hb => ?_⟩
  · rw [hlen]; exact ownsRow_beyonds cs _ _ ho (Nat.le_refl _)
  · rw [hel]
    exact Elems.append (h5.keep fun b hb => hk b (List.mem_append_left _ hb)) (h7.keep fun b hb => hk b (List.mem_append_right _ hb))
  · simp only [Value.ownBlock, Option.some.injEq] at hg'
    subst hg'
    simp only [List.mem_append, not_or]
    exact ⟨hgF.1, hgF.2.2⟩
  · have := h4.1
    simp only [List.nodup_append, List.mem_append] at this ⊢
    exact ⟨this.1, this.2.1.2.1, fun a ha b hb => this.2.2 a ha b (.inr hb)⟩
  all_goals
    rcases List.mem_append.1 hb with hb | hb
    · simp [hb]
    · simp [hb]
end
end Go.Proofs.Ytblcmajhdndmfaa
