/- Contracts: the paths of the values of a kind, in the program. -/
import Derived.Test.YtblcmajhdndmfaaFind
import Derived.Laws.IdiomCopy
namespace Go.Proofs.Ytblcmajhdndmfaa
open Go.RowKit
set_option linter.unusedVariables false
set_option maxRecDepth 100000

theorem setCells_stores (b : Nat) : ∀ (cs : List Value) (w : World) (o : Nat), w.setCells b o cs = stores w b o cs
  | [], _, _ => rfl
  | c :: cs, w, o => setCells_stores b cs _ (o + 1)

theorem indexFuncPath_any (l : List (List GStep)) (A : Option Addr) (c : Nat) (w : World) (fn : Nat) (v1 v2 : Value) (f : List GStep → Bool) (hl : SA w l A c) (hcf : ∀ (a : Array Value) (w : World), (callFunc fn a).run Try.prog w = .ok (.enter fn a) w)
    (H : ∀ (x : List GStep), x ∈ l → ∀ (A' : Option Addr) (c' : Nat) (w1 : World), Below w.heap.size w w1 → SA w1 x A' c' → Calls Try.prog fn #[.agg #[.slice A' x.length c'], v1, v2] w1 (Ret w1 (.bool (f x)))) :
    Calls Try.prog 103 #[.slice A l.length c, .func (.func fn) #[] #[v1, v2]] w (Ret w (.int .i64 (idxOf f l))) := by
  obtain ⟨r, hr⟩ : ∃ r, r = idxOf f l := ⟨_, rfl⟩
  rw [← hr]
  have R := Lib.hid hr; clear hr
  have hm : l.length ≤ 9223372036854775807 := by have := hl.len; unfold maxLen at this; omega
  have E := Lib.hid hl; clear hl
  have HH := Lib.hid H; clear H
  go_enter Try.func103, Try.ntmps103
  go_wp2_with fail
  go_loopg [8] l.length (fun gk i wr => ∃ k : Nat, k ≤ l.length ∧ i = .int .i64 k ∧ gk = l.length - k ∧ Hid ((l.take k).any f = false) ∧ Below w.heap.size w wr)
  case atStart => exact ⟨0, by omega, rfl, by omega, rfl, bRf w⟩
  case round =>
    obtain ⟨k, hk, rfl, rfl, hT, hbel⟩ := hrel
    by_cases hlt : k < l.length
    · obtain ⟨b, off, A1, c1, rfl, hb, hs, k0⟩ := (E.out.below hbel).path_at hlt
      have HS := Lib.hid hs; clear hs
      cases hB : f l[k]
      all_goals
        have HB := Lib.hid hB; clear hB
        go_wp2_with fail
        refine (HH.out l[k] (List.getElem_mem hlt) A1 c1 _ hbel HS.out).mono ?_
        rintro e w1 ⟨rfl, hb1⟩
        rw [HB.out]
        go_wp2_with fail
      · go_roundg (l.length - (k + 1))
        case measure => omega
        case rel => exact ⟨k + 1, by omega, by go_num, rfl, anyT_snoc hlt hT.out HB.out, bTr hbel hb1⟩
      · go_ret
        exact ⟨by rw [R.out, idxOf_hit hlt hT.out HB.out]; rfl, bTr hbel hb1⟩
    · have e : k = l.length := by omega
      go_wp2_with fail
      go_ret
      exact ⟨by rw [R.out, idxOf_end e hT.out]; rfl, hbel⟩

theorem implFind1_any (v : GVal) (kind : Int) (x : List GStep) (A Ax : Option Addr) (c cx : Nat) (q1 q2 : Nat) (w : World) (hn : bulkVal v ≤ 1048576) (hv : VInt v) (hq1 : Blk w q1 40 #[.int .i64 v.kind, .int .i64 v.n, .int .i64 v.x, .string v.s, .slice A v.l.length c])
    (hq2 : w.cell? ⟨q2, 0, none⟩ = some (.int .i64 kind)) (hq2l : q2 < w.heap.size) (hx : SA w v.l A c) (hp : SA w x Ax cx) :
    Calls Try.prog 77 #[.agg #[.slice Ax x.length cx], .pointer (some ⟨q1, 0, none⟩), .pointer (some ⟨q2, 0, none⟩)] w (Ret w (.bool (!(atG v x).isSome || (zv (atG v x)).kind != kind))) := by
  obtain ⟨o, ho⟩ : ∃ o, o = atG v x := ⟨_, rfl⟩
  rw [← ho]
  obtain ⟨p0, p1, p2, p3, p4⟩ := hq1.c5
  have hz1 := hq1.lt
  have E := Lib.hid (And.intro ho (And.intro hx (And.intro hp hv))); clear ho hx hp hv
  cases hs : o.isSome with
  | false =>
    go_enter Try.func77, Try.ntmps77
    go_wp2_with (go_at_call 78; (refine (implAtPath_any v x A Ax c cx _ hn E.out.2.2.2 (E.out.2.1.below (bAl (bRf w) _)) (E.out.2.2.1.below (bAl (bRf w) _))).mono ?_; rintro e w1 ⟨A2, c2, rfl, hsf, hvz, hb1⟩; rw [← E.out.1, hs]; unfold valB; have B1 := Lib.hid (bTr (bAl (bRf w) _) hb1); clear hsf hvz hb1))
    go_ret
    exact ⟨by rfl, bAl B1.out _⟩
  | true =>
    cases hk : ((zv o).kind != kind)
    all_goals
      go_enter Try.func77, Try.ntmps77
      go_wp2_with (go_at_call 78; (refine (implAtPath_any v x A Ax c cx _ hn E.out.2.2.2 (E.out.2.1.below (bAl (bRf w) _)) (E.out.2.2.1.below (bAl (bRf w) _))).mono ?_; rintro e w1 ⟨A2, c2, rfl, hsf, hvz, hb1⟩; rw [← E.out.1, hs]; unfold valB; have B1 := Lib.hid (bTr (bAl (bRf w) _) hb1); have r2 := (B1.out.cell (p := ⟨q2, 0, none⟩) hq2l).trans hq2; have hz2 : q2 < w1.heap.size := (by have := B1.out.size; omega); clear hsf hvz hb1))
      go_ret
      exact ⟨by rfl, bAl B1.out _⟩

theorem idxOf_cases {α : Type} (f : α → Bool) (l : List α) : (idxOf f l = -1 ∧ l.filter (fun x => !f x) = l) ∨ ∃ i, ∃ hi : i < l.length, idxOf f l = i ∧ (l.take i).filter (fun x => !f x) = l.take i ∧ f l[i] = true := by
  unfold idxOf
  cases h : l.findIdx? f with
  | none =>
    left
    rw [List.findIdx?_eq_none_iff] at h
    exact ⟨rfl, List.filter_eq_self.2 fun x hx => by simp [h x hx]⟩
  | some i =>
    right
    obtain ⟨hi, e, hb⟩ := List.findIdx?_eq_some_iff_getElem.1 h
    refine ⟨i, hi, rfl, List.filter_eq_self.2 fun x hx => ?_, e⟩
    obtain ⟨j, hj, rfl⟩ := List.mem_iff_getElem.1 hx
    have hj' : j < i := by simp at hj; omega
    have := hb j hj'
    simp at this ⊢
    exact this

/-- A row of the call's own in the midst of a deletion: what is kept, m cells of whatever kind, what is still to come. -/
def DelS (base : Nat) (t : TypeId) (g n c : Nat) (kept rest : List (List GStep)) (m : Nat) (w : World) : Prop :=
  ∃ x1 x2 x3 Fk Fd, w.ownsRow base t 1 (.slice (some ⟨g, 0, none⟩) n c) n (x1 ++ (x2 ++ x3)) ∧ x2.length = m ∧ Elems w kept Fk x1 ∧ Elems w rest Fd x3 ∧ g ∉ Fk ++ Fd ∧ Fresh base w (Fk ++ Fd)
section
variable {base : Nat} {t : TypeId} {g n c m : Nat} {kept rest : List (List GStep)} {w w' : World}
theorem pathWd : Rep.wd (List GStep) = 1 := rfl
theorem Elems.len1 {l : List (List GStep)} {F : List Nat} {xs : List Value} (h : Elems w l F xs) : xs.length = l.length := by have := h.len; rw [pathWd] at this; omega
theorem DelS.below (h : DelS base t g n c kept rest m w) (hb : Below w.heap.size w w') : DelS base t g n c kept rest m w' := by
  obtain ⟨x1, x2, x3, Fk, Fd, h1, h2, h3, h4, h5, h6⟩ := h
  have hlt : ∀ b, b ∈ Fk ++ Fd → b < w.heap.size := fun b hm => (h6.2 b hm).2.lt
  exact ⟨x1, x2, x3, Fk, Fd, ownsRow_below h1 hb, h2, h3.keep fun b hm => hb.block b (hlt b (List.mem_append_left _ hm)), h4.keep fun b hm => hb.block b (hlt b (List.mem_append_right _ hm)), h5, h6.below hb⟩
theorem DelS.start {l : List (List GStep)} (h : OwnF w base t (.slice (some ⟨g, 0, none⟩) l.length c) l) {i : Nat} (hi : i < l.length) : DelS base t g l.length c (l.take i) (l.drop (i + 1)) 1 w := by
  obtain ⟨F, ⟨xs, h1, h2, h3⟩, h4⟩ := h
  have e : l = l.take i ++ (l[i] :: l.drop (i + 1)) := by rw [← List.drop_eq_getElem_cons hi, List.take_append_drop]
  rw [e] at h2
  obtain ⟨F1, F2, x1, x2, rfl, rfl, h5, F3, F4, x3, x4, rfl, rfl, h6, h7⟩ := h2.split
  refine ⟨x1, x3, x4, F1, F4, by rw [pathWd] at h1; exact h1, by have := Rep.len h6; rw [pathWd] at this; exact this, h5, h7, ?_, ?_⟩
  · intro hm
    refine h3 g rfl ?_
    simp only [List.mem_append] at hm ⊢
    rcases hm with hm | hm
    · exact .inl hm
    · exact .inr (.inr hm)
  · refine ⟨?_, fun b hm => h4.2 b ?_⟩
    · have := h4.1
      simp only [List.nodup_append, List.mem_append] at this ⊢
      exact ⟨this.1, this.2.1.2.1, fun a ha b hb => this.2.2 a ha b (.inr hb)⟩
    · simp only [List.mem_append] at hm ⊢
      rcases hm with hm | hm
      · exact .inl hm
      · exact .inr (.inr hm)
theorem DelS.size (h : DelS base t g n c kept rest m w) : kept.length + (m + rest.length) = n := by
  obtain ⟨x1, x2, x3, Fk, Fd, h1, h2, h3, h4, h5, h6⟩ := h
  have := h1.1
  have := h3.len1; have := h4.len1
  simp at *
  omega
theorem DelS.lt (h : DelS base t g n c kept rest m w) : base ≤ g ∧ g < w.heap.size := by
  obtain ⟨x1, x2, x3, Fk, Fd, h1, _⟩ := h
  exact h1.lt g rfl
theorem DelS.cell (h : DelS base t g n c kept rest m w) {j : Nat} (hj : j < n) : (∃ u, w.cell? ⟨g, j, none⟩ = some u) ∧ w.frozen? ⟨g, j, none⟩ = false := by
  obtain ⟨x1, x2, x3, Fk, Fd, h1, _⟩ := h
  refine ⟨?_, h1.frozenAt _⟩
  rw [h1.cellAt j (by omega)]
  exact ⟨_, List.getElem?_eq_getElem (by have := h1.1; omega)⟩
theorem DelS.head {a : List GStep} (h : DelS base t g n c kept (a :: rest) m w) : ∃ A' c', w.cell? ⟨g, kept.length + m, none⟩ = some (.slice A' a.length c') ∧ SA w a A' c' := by
  have hsz := h.size
  obtain ⟨x1, x2, x3, Fk, Fd, h1, h2, h3, ⟨F1, F2, cs, ys, rfl, rfl, ⟨A', c', rfl, hs⟩, h4⟩, h5, h6⟩ := h
  have hx1 := h3.len1
  refine ⟨A', c', ?_, F1, hs, fun b hb => (h6.2 b (by simp [hb])).2.lt⟩
  rw [h1.cellAt _ (by simp at hsz; omega), List.getElem?_append_right (by omega), List.getElem?_append_right (by omega)]
  have : kept.length + m - x1.length - x2.length = 0 := by omega
  rw [this]; rfl
theorem DelS.skip {a : List GStep} (h : DelS base t g n c kept (a :: rest) m w) : DelS base t g n c kept rest (m + 1) w := by
  obtain ⟨x1, x2, x3, Fk, Fd, h1, h2, h3, ⟨F1, F2, cs, ys, rfl, rfl, ⟨A', c', rfl, hs⟩, h4⟩, h5, h6⟩ := h
  refine ⟨x1, x2 ++ [.slice A' a.length c'], ys, Fk, F2, by simpa using h1, by simp [h2], h3, h4, ?_, ?_, fun b hm => h6.2 b ?_⟩
  · simp only [List.mem_append, not_or] at h5 ⊢; exact ⟨h5.1, h5.2.2⟩
  · have := h6.1
    simp only [List.nodup_append, List.mem_append] at this ⊢
    exact ⟨this.1, this.2.1.2.1, fun a ha b hb => this.2.2 a ha b (.inr hb)⟩
  · simp only [List.mem_append] at hm ⊢
    rcases hm with hm | hm
    · exact .inl hm
    · exact .inr (.inr hm)
theorem DelS.take {a : List GStep} {A' : Option Addr} {c' : Nat} (h : DelS base t g n c kept (a :: rest) (m + 1) w) (hu : w.cell? ⟨g, kept.length + (m + 1), none⟩ = some (.slice A' a.length c')) :
    DelS base t g n c (kept ++ [a]) rest (m + 1) (w.setCell ⟨g, kept.length, none⟩ (.slice A' a.length c')) := by
  have hsz := h.size
  obtain ⟨A2, c2, hu2, _⟩ := h.head
  rw [hu] at hu2
  obtain ⟨x1, x2, x3, Fk, Fd, h1, h2, h3, ⟨F1, F2, cs, ys, rfl, rfl, ⟨A3, c3, rfl, hs⟩, h4⟩, h5, h6⟩ := h
  have hx1 := h3.len1
  have hu3 : w.cell? ⟨g, kept.length + (m + 1), none⟩ = some (.slice A3 a.length c3) := by
    rw [h1.cellAt _ (by simp at hsz; omega), List.getElem?_append_right (by omega), List.getElem?_append_right (by omega)]
    have : kept.length + (m + 1) - x1.length - x2.length = 0 := by omega
    rw [this]; rfl
  rw [hu] at hu3
  simp only [Option.some.injEq, Value.slice.injEq, true_and] at hu3
  obtain ⟨rfl, rfl⟩ := hu3
  obtain ⟨z, x2', rfl⟩ : ∃ z x2', x2 = z :: x2' := by cases x2 with | nil => simp at h2 | cons z x => exact ⟨z, x, rfl⟩
  have hst := (h1.stored kept.length (.slice A' a.length c')).1
  have hset : (x1 ++ (z :: x2' ++ ([Value.slice A' a.length c'] ++ ys))).set kept.length (.slice A' a.length c') = (x1 ++ [.slice A' a.length c']) ++ ((x2' ++ [.slice A' a.length c']) ++ ys) := by
    rw [← hx1, List.set_append_right _ _ (Nat.le_refl _), Nat.sub_self]
    simp
  rw [hset] at hst
  have hk : ∀ b, b ∈ Fk ++ (F1 ++ F2) → (w.setCell ⟨g, kept.length, none⟩ (.slice A' a.length c')).heap[b]? = w.heap[b]? := fun b hb => Below.heap_setCell _ _ _ _ (fun e => h5 (by rw [← show b = g from e]; exact hb))
  refine ⟨x1 ++ [.slice A' a.length c'], x2' ++ [.slice A' a.length c'], ys, Fk ++ F1, F2, hst, by simp at h2 ⊢; omega, ?_, h4.keep fun b hb => hk b (by simp [hb]), ?_, ?_⟩
  · exact (h3.keep fun b hb => hk b (by simp [hb])).snoc ⟨A', c', rfl, hs.keep fun b hb => hk b (by simp [hb])⟩
  · simpa using h5
  · rw [List.append_assoc]; exact h6.keep hk
theorem DelS.clear (h : DelS base t g n c kept [] m w) (z : Value) : SF base (stores w g kept.length (List.replicate m z)) kept (some ⟨g, 0, none⟩) c := by
  have hsz := h.size
  obtain ⟨x1, x2, x3, Fk, Fd, h1, h2, h3, ⟨rfl, rfl⟩, h5, h6⟩ := h
  rw [List.append_nil] at h1 h5 h6
  have hx1 := h3.len1
  have hst := ownsRow_stores (List.replicate m z) _ w kept.length h1
  have hl := h1.1
  rw [splice_eq _ _ _ (by simp at hl ⊢; omega)] at hst
  have hk : ∀ b, b ∈ Fk → (stores w g kept.length (List.replicate m z)).heap[b]? = w.heap[b]? := fun b hb => stores_heap_other g _ w _ b (fun e => h5 (e ▸ hb))
  obtain ⟨_, hr⟩ := hst
  rcases hr with ⟨hv, _⟩ | ⟨g', cap, cur, hv, hb, hh, hnc, hcm, hcs, htk⟩
  · cases hv
  · simp only [Value.slice.injEq, Option.some.injEq, Addr.mk.injEq, and_true, true_and] at hv
    obtain ⟨rfl, rfl⟩ := hv
    refine ⟨g :: Fk, ⟨by simp at hsz; omega, hcm, .inr ⟨g, 0, Fk, x1, rfl, rfl, h3.keep hk, fun j v hj => ?_⟩⟩, List.nodup_cons.2 ⟨h5, h6.1⟩, fun b hm => ?_⟩
    · have hjl : j < x1.length := (List.getElem?_eq_some_iff.1 hj).1
      rw [Nat.zero_add, cell_of_row _ g j cur t (0, 0) hh]
      have h7 : cur.toList[j]? = (cur.toList.take (n * 1))[j]? := by rw [List.getElem?_take_of_lt (by simp at hsz; omega)]
      rw [← Array.getElem?_toList, h7, htk, List.getElem?_append_left (by simp; omega), List.getElem?_take_of_lt (by omega), List.getElem?_append_left hjl]
      exact hj
    · rcases List.mem_cons.1 hm with rfl | hm
      · exact ⟨hb, ⟨_, _, hh⟩⟩
      · exact ⟨(h6.2 b hm).1, (h6.2 b hm).2.keep (hk b hm)⟩
end
end Go.Proofs.Ytblcmajhdndmfaa
