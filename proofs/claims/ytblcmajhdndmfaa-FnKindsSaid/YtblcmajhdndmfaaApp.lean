/- Appends to a row of the call's own. No program in sight. -/
import Derived.Test.YtblcmajhdndmfaaData
import Derived.Laws.AppendOwnNone
namespace Go.Proofs.Ytblcmajhdndmfaa
open Go.RowKit
set_option linter.unusedVariables false
set_option maxRecDepth 100000

theorem cells_new (w : World) (t : TypeId) (cs : Array Value) : ∀ j u, cs.toList[j]? = some u → (w.alloc (.cells cs t)).cell? ((⟨w.heap.size, 0, none⟩ : Addr).add j) = some u := by
  intro j u hj
  have e1 : (⟨w.heap.size, 0, none⟩ : Addr).add j = ⟨w.heap.size, j, none⟩ := by
    unfold Addr.add; split
    · rename_i h; subst h; rfl
    · simp
  rw [e1, (Blk.new w t cs).cell j]
  simpa using hj

theorem cells_at {w : World} {t : TypeId} {g : Nat} (cs : List Value) (h : g = w.heap.size) : ∀ j u, cs[j]? = some u → (w.alloc (.cells cs.toArray t)).cell? ((⟨g, 0, none⟩ : Addr).add j) = some u := by
  subst h; exact cells_new w t cs.toArray
theorem Blk.cells {w : World} {g : Nat} {t : TypeId} {cs : Array Value} (h : Blk w g t cs) : ∀ j u, cs.toList[j]? = some u → w.cell? ((⟨g, 0, none⟩ : Addr).add j) = some u := by
  intro j u hj
  have e1 : (⟨g, 0, none⟩ : Addr).add j = ⟨g, j, none⟩ := by
    unfold Addr.add; split
    · rename_i h; subst h; rfl
    · simp
  rw [e1, h.cell j]
  simpa using hj
theorem Blk.keepB {w w' : World} {B g : Nat} {t : TypeId} {cs : Array Value} (h : Blk w g t cs) (hb : Below B w w') (hg : g < B) : Blk w' g t cs := (hb.block g hg).trans h
theorem Blk.at {w : World} {g : Nat} {t : TypeId} {cs : Array Value} (h : g = w.heap.size) : Blk (w.alloc (.cells cs t)) g t cs := h ▸ Blk.new w t cs

section
variable {α : Type} [Rep α]
theorem OwnF.lit0' (w : World) (t : TypeId) (base g : Nat) (h : g = w.heap.size) (hb : base ≤ g) : OwnF (α := α) (w.alloc (.cells #[] t)) base t (.slice (some ⟨g, 0, none⟩) 0 0) [] := by
  subst h
  exact ⟨[], ⟨[], World.ownsRow_lit w #[] 0 hb (by simp) (by simp), ⟨rfl, rfl⟩, by simp⟩, Fresh.nil _ _⟩

theorem OwnC.base_le {w : World} {base : Nat} {t : TypeId} {v : Value} {l : List α} {F : List Nat} (h : OwnC w base t v l F) : ∀ g, v.ownBlock = some g → base ≤ g := by
  obtain ⟨xs, ⟨_, h1⟩, _⟩ := h
  intro g hg
  rcases h1 with ⟨rfl, _⟩ | ⟨g', cap, cur, rfl, hb, _⟩
  · cases hg
  · simp only [Value.ownBlock, Option.some.injEq] at hg
    omega
theorem OwnC.own_lt {w : World} {base : Nat} {t : TypeId} {v : Value} {l : List α} {F : List Nat} (h : OwnC w base t v l F) : ∀ g, v.ownBlock = some g → base ≤ g ∧ g < w.heap.size := by
  intro g hg
  obtain ⟨A, c, rfl⟩ := h.form
  cases A with
  | none => cases hg
  | some a =>
    obtain ⟨xs, h1, _⟩ := h
    exact h1.lt g hg
theorem OwnF.own_lt {w : World} {base : Nat} {t : TypeId} {v : Value} {l : List α} (h : OwnF w base t v l) : ∀ g, v.ownBlock = some g → base ≤ g ∧ g < w.heap.size := h.choose_spec.1.own_lt
theorem OwnA.own_lt {w : World} {base : Nat} {t : TypeId} {v : Value} {l : List α} (h : OwnA w base t v l) : ∀ g, v.ownBlock = some g → base ≤ g ∧ g < w.heap.size := h.choose_spec.1.own_lt
theorem OwnC.len {w : World} {base : Nat} {t : TypeId} {v : Value} {l : List α} {F : List Nat} (h : OwnC w base t v l F) : l.length ≤ maxLen := by
  obtain ⟨A, c, rfl⟩ := h.form
  obtain ⟨_, F', h1, _⟩ := h.slr
  have := h1.1; have := h1.2.1; omega
theorem OwnF.len {w : World} {base : Nat} {t : TypeId} {v : Value} {l : List α} (h : OwnF w base t v l) : l.length ≤ maxLen := h.choose_spec.1.len
theorem OwnA.len {w : World} {base : Nat} {t : TypeId} {v : Value} {l : List α} (h : OwnA w base t v l) : l.length ≤ maxLen := h.choose_spec.1.len

theorem OwnC.alloc {w : World} {base : Nat} {t : TypeId} {v : Value} {l : List α} {F : List Nat} (h : OwnC w base t v l F) (hF : ∀ b, b ∈ F → b < w.heap.size) (o : Obj) : OwnC (w.alloc o) base t v l F := h.below hF (bAl (bRf w) o)
theorem OwnF.alloc {w : World} {base : Nat} {t : TypeId} {v : Value} {l : List α} (h : OwnF w base t v l) (o : Obj) : OwnF (w.alloc o) base t v l := h.below (bAl (bRf w) o)
theorem OwnA.alloc {w : World} {base : Nat} {t : TypeId} {v : Value} {l : List α} (h : OwnA w base t v l) (o : Obj) : OwnA (w.alloc o) base t v l := h.below (bAl (bRf w) o)
theorem OwnF.drew {w : World} {base : Nat} {t : TypeId} {v : Value} {l : List α} (h : OwnF w base t v l) : OwnF w.drew base t v l := h.below (bRf w).drew
theorem OwnA.drew {w : World} {base : Nat} {t : TypeId} {v : Value} {l : List α} (h : OwnA w base t v l) : OwnA w.drew base t v l := h.below (bRf w).drew
theorem OwnF.set {w : World} {base : Nat} {t : TypeId} {v : Value} {l : List α} (h : OwnF w base t v l) {p : Addr} (hp : p.block < base) (u : Value) : OwnF (w.setCell p u) base t v l := by
  obtain ⟨F, h1, h2⟩ := h
  have hlt := h1.own_lt
  obtain ⟨xs, h3, h4, h5⟩ := h1
  refine ⟨F, ⟨xs, ?_, h4.keep fun b hb => Below.heap_setCell w p u b (fun e => by have := (h2.2 b hb).1; omega), h5⟩, h2.set hp u⟩
  obtain ⟨h6, h7⟩ := h3
  refine ⟨h6, ?_⟩
  rcases h7 with h7 | ⟨g, cap, cur, rfl, hb, hh, h8, h9, h10, h11⟩
  · exact .inl h7
  · exact .inr ⟨g, cap, cur, rfl, hb, (Below.heap_setCell w p u g (fun e => by omega)).trans hh, h8, h9, h10, h11⟩
theorem OwnA.set {w : World} {base : Nat} {t : TypeId} {v : Value} {l : List α} (h : OwnA w base t v l) {p : Addr} (hp : p.block < base) (hF : ∀ F, OwnC w base t v l F → (∀ b, b ∈ F → b < w.heap.size) → p.block ∉ F) (u : Value) : OwnA (w.setCell p u) base t v l := by
  obtain ⟨F, h1, h2⟩ := h
  have hn := hF F h1 h2
  have hlt := h1.own_lt
  obtain ⟨xs, h3, h4, h5⟩ := h1
  refine ⟨F, ⟨xs, ?_, h4.keep fun b hb => Below.heap_setCell w p u b (fun e => hn (e ▸ hb)), h5⟩, fun b hb => by simpa [World.setCell] using h2 b hb⟩
  obtain ⟨h6, h7⟩ := h3
  refine ⟨h6, ?_⟩
  rcases h7 with h7 | ⟨g, cap, cur, rfl, hb, hh, h8, h9, h10, h11⟩
  · exact .inl h7
  · exact .inr ⟨g, cap, cur, rfl, hb, (Below.heap_setCell w p u g (fun e => by omega)).trans hh, h8, h9, h10, h11⟩
theorem OwnF.mono {w : World} {base base' : Nat} {t : TypeId} {v : Value} {l : List α} (h : OwnF w base t v l) (hb : base' ≤ base) : OwnF w base' t v l := by
  obtain ⟨F, ⟨xs, ⟨h3, h6⟩, h4, h5⟩, h2⟩ := h
  refine ⟨F, ⟨xs, ⟨h3, ?_⟩, h4, h5⟩, h2.mono hb⟩
  rcases h6 with h7 | ⟨g, cap, cur, rfl, hb', h⟩
  · exact .inl h7
  · exact .inr ⟨g, cap, cur, rfl, by omega, h⟩

/-- a slice literal without elements -/
theorem OwnF.lit0 (w : World) (t : TypeId) (base : Nat) (hb : base ≤ w.heap.size) : OwnF (α := α) (w.alloc (.cells #[] t)) base t (.slice (some ⟨w.heap.size, 0, none⟩) 0 0) [] :=
  ⟨[], ⟨[], World.ownsRow_lit w #[] 0 hb (by simp) (by simp), ⟨rfl, rfl⟩, by simp⟩, Fresh.nil _ _⟩
/-- a slice literal of one element -/
theorem OwnF.lit1 {w : World} {base : Nat} {a : α} {cs : List Value} (h : RF base w a cs) (t : TypeId) (hb : base ≤ w.heap.size) : OwnF (w.alloc (.cells cs.toArray t)) base t (.slice (some ⟨w.heap.size, 0, none⟩) 1 1) [a] := by
  obtain ⟨F, h1, h2⟩ := h
  have hlt : ∀ b, b ∈ F → b < w.heap.size := fun b hb => (h2.2 b hb).2.lt
  refine ⟨F, ⟨cs, World.ownsRow_lit w cs.toArray 1 hb (by unfold maxLen; omega) (by simp [Rep.len h1]), Elems.single (Rep.keep h1 fun b hb => Below.heap_alloc w _ b (hlt b hb)), fun g hg hm => ?_⟩, h2.below (bAl (bRf w) _)⟩
  simp only [Value.ownBlock, Option.some.injEq] at hg
  have := hlt g hm; omega

variable {P : Program} {W : World} {ops : Array Oper} {rest : List Oper} {o : Oper} {a : Act} {Q : Exit → Act → World → Prop}

theorem grown_below {W w' : World} {base : Nat} {v : Value} (hg : W.grownBy w' v.ownBlock) (hB : base ≤ W.heap.size) (hr : ∀ k, v.ownBlock = some k → base ≤ k) : Below base W w' := Below.grown (Below.refl base W) hg hB hr

/-- What an append leaves: the row l in new memory; nothing below base has turned. -/
def AppF (W : World) (base : Nat) (e : TypeId) (v : Value) (l : List α) (v' : Value) (w' : World) : Prop := OwnF w' base e v' l ∧ Below base W w' ∧ (v'.ownBlock = v.ownBlock ∨ v'.ownBlock = some W.heap.size) ∧ W.grownBy w' v.ownBlock
def AppA (W : World) (base : Nat) (e : TypeId) (v : Value) (l : List α) (v' : Value) (w' : World) : Prop := OwnA w' base e v' l ∧ Below base W w' ∧ (v'.ownBlock = v.ownBlock ∨ v'.ownBlock = some W.heap.size) ∧ W.grownBy w' v.ownBlock
theorem grownBy_rfl (W : World) (row : Option Nat) : W.grownBy W row := ⟨rfl, rfl, rfl, Nat.le_refl _, fun _ _ _ => rfl⟩
theorem Blk.grown {W w' : World} {row : Option Nat} {g : Nat} {t : TypeId} {cs : Array Value} (h : Blk W g t cs) (hg : W.grownBy w' row) (hne : row ≠ some g) : Blk w' g t cs := (hg.block g h.lt (fun e => hne e.symm)).trans h

theorem run_app_none (base : Nat) (t ty e : TypeId) (z : Value) (bytes : Nat) (ht : P.underlying t = some (.slice e)) (hinfo : (P.info? e).map (fun i => (i.zero, i.size, i.bytes)) = some (some z, Rep.wd α, bytes))
    (v : Value) (l : List α) (F : List Nat) (hown : OwnC W base e v l F) : (Builtin.append_ #[t, t] ty #[v, .slice none 0 0]).run P W = .ok v W := by
  obtain ⟨i, hi, hz, hsize, hby⟩ := info_parts hinfo
  obtain ⟨xs, h1, _⟩ := hown
  exact run_append_owned_none (P := P) (w := W) base t ty e i (Rep.wd α) ht hi v l.length xs h1

/-- elements that lie at an address, made since w0 -/
theorem run_appE_F (t ty : TypeId) (base : Nat) (e : TypeId) (z : Value) (bytes : Nat) (ht : P.underlying t = some (.slice e))
    (hinfo : (P.info? e).map (fun i => (i.zero, i.size, i.bytes)) = some (some z, Rep.wd α, bytes)) (hzs : z.cells.size = Rep.wd α) (hsz : 0 < Rep.wd α)
    (v : Value) (l ys : List α) (w0 : World) (ad : Addr) (c : Nat) (F' : List Nat) (news : List Value) (hown : OwnF w0 base e v l) (hb0 : Below w0.heap.size w0 W)
    (hel : Elems W ys F' news) (hr2 : Fresh w0.heap.size W F') (hcells : ∀ j u, news[j]? = some u → W.cell? (ad.add j) = some u)
    (hbytes : (l.length + ys.length) * bytes ≤ 140737488355328) (h63 : l.length + ys.length ≤ maxLen) (hbase : base ≤ w0.heap.size) :
    ∃ v' w', (Builtin.append_ #[t, t] ty #[v, .slice (some ad) ys.length c]).run P W = .ok v' w' ∧ AppF W base e v (l ++ ys) v' w' := by
  obtain ⟨i, hi, hz, hsize, hby⟩ := info_parts hinfo
  obtain ⟨F, hC, hFr⟩ := hown
  have hlt : ∀ b, b ∈ F → b < w0.heap.size := fun b hm => (hFr.2 b hm).2.lt
  have hgl := hC.own_lt
  obtain ⟨xs, h1, h2, h3⟩ := hC.below hlt hb0
  have hFr' := hFr.below hb0
  have hbW : base ≤ W.heap.size := Nat.le_trans hbase hb0.size
  have hF : ∀ g, v.ownBlock = some g → g ∉ F' := fun g hg hm => by have := (hr2.2 g hm).1; have := (hgl g hg).2; omega
  have hltW : ∀ b, b ∈ F ++ F' → b < W.heap.size := fun b hm => by
    rcases List.mem_append.1 hm with hm | hm
    · exact (hFr'.2 b hm).2.lt
    · exact (hr2.2 b hm).2.lt
  obtain ⟨v', w', hrun, h4, h5, _, h6⟩ := run_append_own_at (P := P) W base t ty e i z (Rep.wd α) bytes ht hi hz hsize hby hzs hsz v l.length xs h1 ad ys.length c news hel.len hcells hel.one h63 hbytes hbW
  refine ⟨v', w', hrun, ⟨F ++ F', OwnC.grown h2 h3 hel hF hltW h4 h5 h6, ?_, fun b hm => ?_⟩, grown_below h5 hbW fun k hk => (hgl k hk).1, h6, h5⟩
  · rw [List.nodup_append]
    exact ⟨hFr.1, hr2.1, fun x hx y hy e => by have := hlt x hx; have := (hr2.2 y hy).1; omega⟩
  · have hne : v.ownBlock ≠ some b := fun e => by
      rcases List.mem_append.1 hm with hm | hm
      · exact h3 b e hm
      · exact hF b e hm
    have hk := h5.block b (hltW b hm) (fun e => hne e.symm)
    rcases List.mem_append.1 hm with hm | hm
    · exact ⟨(hFr.2 b hm).1, (hFr'.2 b hm).2.keep hk⟩
    · exact ⟨by have := (hr2.2 b hm).1; omega, (hr2.2 b hm).2.keep hk⟩
theorem run_app1_F (t ty : TypeId) (base : Nat) (e : TypeId) (z : Value) (bytes : Nat) (ht : P.underlying t = some (.slice e))
    (hinfo : (P.info? e).map (fun i => (i.zero, i.size, i.bytes)) = some (some z, Rep.wd α, bytes)) (hzs : z.cells.size = Rep.wd α) (hsz : 0 < Rep.wd α)
    (v : Value) (l : List α) (el : α) (cs : List Value) (w0 : World) (ad : Addr) (c : Nat) (hown : OwnF w0 base e v l) (hb0 : Below w0.heap.size w0 W)
    (hr : RF w0.heap.size W el cs) (hcells : ∀ j u, cs[j]? = some u → W.cell? (ad.add j) = some u)
    (hbytes : (l.length + 1) * bytes ≤ 140737488355328) (h63 : l.length + 1 ≤ maxLen) (hbase : base ≤ w0.heap.size) :
    ∃ v' w', (Builtin.append_ #[t, t] ty #[v, .slice (some ad) 1 c]).run P W = .ok v' w' ∧ AppF W base e v (l ++ [el]) v' w' := by
  obtain ⟨F', h1, h2⟩ := hr
  exact run_appE_F t ty base e z bytes ht hinfo hzs hsz v l [el] w0 ad c F' cs hown hb0 (Elems.single h1) h2 hcells hbytes h63 hbase
theorem run_app_F (t ty : TypeId) (base : Nat) (e : TypeId) (z : Value) (bytes : Nat) (ht : P.underlying t = some (.slice e))
    (hinfo : (P.info? e).map (fun i => (i.zero, i.size, i.bytes)) = some (some z, Rep.wd α, bytes)) (hzs : z.cells.size = Rep.wd α) (hsz : 0 < Rep.wd α)
    (v : Value) (l ys : List α) (w0 : World) (A : Option Addr) (c : Nat) (hown : OwnF w0 base e v l) (hb0 : Below w0.heap.size w0 W) (hr : SF w0.heap.size W ys A c)
    (hbytes : (l.length + ys.length) * bytes ≤ 140737488355328) (h63 : l.length + ys.length ≤ maxLen) (hbase : base ≤ w0.heap.size) :
    ∃ v' w', (Builtin.append_ #[t, t] ty #[v, .slice A ys.length c]).run P W = .ok v' w' ∧ AppF W base e v (l ++ ys) v' w' := by
  obtain ⟨F0, ⟨hl1, hl2, hl3⟩, hr2⟩ := hr
  rcases hl3 with ⟨rfl, rfl, hn⟩ | ⟨b, off, F1, news, rfl, rfl, hel, hc⟩
  · cases A with
    | none =>
      rw [hn rfl]
      have hown' := hown.below hb0
      obtain ⟨F, hC, hFr⟩ := hown'
      exact ⟨v, W, run_app_none base t ty e z bytes ht hinfo v l F hC, by rw [List.append_nil]; exact ⟨F, hC, hFr⟩, Below.refl _ _, .inl rfl, grownBy_rfl _ _⟩
    | some ad => exact run_appE_F t ty base e z bytes ht hinfo hzs hsz v l [] w0 ad c [] [] hown hb0 ⟨rfl, rfl⟩ (Fresh.nil _ _) (fun j u hj => by simp at hj) hbytes h63 hbase
  · refine run_appE_F t ty base e z bytes ht hinfo hzs hsz v l ys w0 ⟨b, off, none⟩ c F1 news hown hb0 hel ⟨(List.nodup_cons.1 hr2.1).2, fun b hb => hr2.2 b (List.mem_cons_of_mem _ hb)⟩ (fun j u hj => ?_) hbytes h63 hbase
    have e1 : (⟨b, off, none⟩ : Addr).add j = ⟨b, off + j, none⟩ := by
      unfold Addr.add; split
      · rename_i h; subst h; rfl
      · rfl
    rw [e1]; exact hc j u hj
/-- elements without blocks of their own (numbers, steps), from a slice anywhere -/
theorem run_app_P (hP : ∀ w F (a : α) cs, Rep.rp w F a cs → F = []) (t ty : TypeId) (base : Nat) (e : TypeId) (z : Value) (bytes : Nat) (ht : P.underlying t = some (.slice e))
    (hinfo : (P.info? e).map (fun i => (i.zero, i.size, i.bytes)) = some (some z, Rep.wd α, bytes)) (hzs : z.cells.size = Rep.wd α) (hsz : 0 < Rep.wd α)
    (v : Value) (l ys : List α) (A : Option Addr) (c : Nat) (hown : OwnF W base e v l) (hr : SA W ys A c)
    (hbytes : (l.length + ys.length) * bytes ≤ 140737488355328) (h63 : l.length + ys.length ≤ maxLen) (hbase : base ≤ W.heap.size) :
    ∃ v' w', (Builtin.append_ #[t, t] ty #[v, .slice A ys.length c]).run P W = .ok v' w' ∧ AppF W base e v (l ++ ys) v' w' := by
  have hE : ∀ (ys : List α) (F : List Nat) (xs : List Value), Elems W ys F xs → F = [] := by
    intro ys
    induction ys with
    | nil => intro F xs h; exact h.1
    | cons a l ih =>
      rintro F xs ⟨F1, F2, cs, zs, rfl, rfl, h1, h2⟩
      rw [hP _ _ _ _ h1, ih _ _ h2]; rfl
  obtain ⟨F0, ⟨hl1, hl2, hl3⟩, hr2⟩ := hr
  rcases hl3 with ⟨rfl, rfl, hn⟩ | ⟨b, off, F1, news, rfl, rfl, hel, hc⟩
  · cases A with
    | none =>
      rw [hn rfl]
      obtain ⟨F, hC, hFr⟩ := hown
      exact ⟨v, W, run_app_none base t ty e z bytes ht hinfo v l F hC, by rw [List.append_nil]; exact ⟨F, hC, hFr⟩, Below.refl _ _, .inl rfl, grownBy_rfl _ _⟩
    | some ad => exact run_appE_F t ty base e z bytes ht hinfo hzs hsz v l [] W ad c [] [] hown (Below.refl _ _) ⟨rfl, rfl⟩ (Fresh.nil _ _) (fun j u hj => by simp at hj) hbytes h63 hbase
  · have hF1 := hE _ _ _ hel
    subst hF1
    refine run_appE_F t ty base e z bytes ht hinfo hzs hsz v l ys W ⟨b, off, none⟩ c [] news hown (Below.refl _ _) hel (Fresh.nil _ _) (fun j u hj => ?_) hbytes h63 hbase
    have e1 : (⟨b, off, none⟩ : Addr).add j = ⟨b, off + j, none⟩ := by
      unfold Addr.add; split
      · rename_i h; subst h; rfl
      · rfl
    rw [e1]; exact hc j u hj

/-- elements that lie apart from the row -/
theorem run_appE_A (t ty : TypeId) (base : Nat) (e : TypeId) (z : Value) (bytes : Nat) (ht : P.underlying t = some (.slice e))
    (hinfo : (P.info? e).map (fun i => (i.zero, i.size, i.bytes)) = some (some z, Rep.wd α, bytes)) (hzs : z.cells.size = Rep.wd α) (hsz : 0 < Rep.wd α)
    (v : Value) (l ys : List α) (ad : Addr) (c : Nat) (F' : List Nat) (news : List Value) (hown : OwnA W base e v l)
    (hel : Elems W ys F' news) (hr2 : ∀ b, b ∈ F' → b < W.heap.size ∧ v.ownBlock ≠ some b) (hcells : ∀ j u, news[j]? = some u → W.cell? (ad.add j) = some u)
    (hbytes : (l.length + ys.length) * bytes ≤ 140737488355328) (h63 : l.length + ys.length ≤ maxLen) (hbW : base ≤ W.heap.size) :
    ∃ v' w', (Builtin.append_ #[t, t] ty #[v, .slice (some ad) ys.length c]).run P W = .ok v' w' ∧ AppA W base e v (l ++ ys) v' w' := by
  obtain ⟨i, hi, hz, hsize, hby⟩ := info_parts hinfo
  obtain ⟨F, hC, hlt⟩ := hown
  have hgl := hC.own_lt
  obtain ⟨xs, h1, h2, h3⟩ := hC
  have hF : ∀ g, v.ownBlock = some g → g ∉ F' := fun g hg hm => (hr2 g hm).2 hg
  have hltW : ∀ b, b ∈ F ++ F' → b < W.heap.size := fun b hm => by
    rcases List.mem_append.1 hm with hm | hm
    · exact hlt b hm
    · exact (hr2 b hm).1
  obtain ⟨v', w', hrun, h4, h5, _, h6⟩ := run_append_own_at (P := P) W base t ty e i z (Rep.wd α) bytes ht hi hz hsize hby hzs hsz v l.length xs h1 ad ys.length c news hel.len hcells hel.one h63 hbytes hbW
  exact ⟨v', w', hrun, ⟨F ++ F', OwnC.grown h2 h3 hel hF hltW h4 h5 h6, fun b hm => Nat.lt_of_lt_of_le (hltW b hm) h5.size⟩, grown_below h5 hbW fun k hk => (hgl k hk).1, h6, h5⟩
theorem run_app1_A (t ty : TypeId) (base : Nat) (e : TypeId) (z : Value) (bytes : Nat) (ht : P.underlying t = some (.slice e))
    (hinfo : (P.info? e).map (fun i => (i.zero, i.size, i.bytes)) = some (some z, Rep.wd α, bytes)) (hzs : z.cells.size = Rep.wd α) (hsz : 0 < Rep.wd α)
    (v : Value) (l : List α) (el : α) (cs : List Value) (ad : Addr) (c : Nat) (hown : OwnA W base e v l)
    (hr : RS W (fun b => b < W.heap.size ∧ v.ownBlock ≠ some b) el cs) (hcells : ∀ j u, cs[j]? = some u → W.cell? (ad.add j) = some u)
    (hbytes : (l.length + 1) * bytes ≤ 140737488355328) (h63 : l.length + 1 ≤ maxLen) (hbW : base ≤ W.heap.size) :
    ∃ v' w', (Builtin.append_ #[t, t] ty #[v, .slice (some ad) 1 c]).run P W = .ok v' w' ∧ AppA W base e v (l ++ [el]) v' w' := by
  obtain ⟨F', h1, h2⟩ := hr
  exact run_appE_A t ty base e z bytes ht hinfo hzs hsz v l [el] ad c F' cs hown (Elems.single h1) h2 hcells hbytes h63 hbW
theorem run_app_A (t ty : TypeId) (base : Nat) (e : TypeId) (z : Value) (bytes : Nat) (ht : P.underlying t = some (.slice e))
    (hinfo : (P.info? e).map (fun i => (i.zero, i.size, i.bytes)) = some (some z, Rep.wd α, bytes)) (hzs : z.cells.size = Rep.wd α) (hsz : 0 < Rep.wd α)
    (v : Value) (l ys : List α) (A : Option Addr) (c : Nat) (hown : OwnA W base e v l)
    (hr : SS W (fun b => b < W.heap.size ∧ v.ownBlock ≠ some b) ys A c)
    (hbytes : (l.length + ys.length) * bytes ≤ 140737488355328) (h63 : l.length + ys.length ≤ maxLen) (hbW : base ≤ W.heap.size) :
    ∃ v' w', (Builtin.append_ #[t, t] ty #[v, .slice A ys.length c]).run P W = .ok v' w' ∧ AppA W base e v (l ++ ys) v' w' := by
  obtain ⟨F0, ⟨hl1, hl2, hl3⟩, hr2⟩ := hr
  rcases hl3 with ⟨rfl, rfl, hn⟩ | ⟨b, off, F1, news, rfl, rfl, hel, hc⟩
  · cases A with
    | none =>
      rw [hn rfl]
      obtain ⟨F, hC, hFr⟩ := hown
      exact ⟨v, W, run_app_none base t ty e z bytes ht hinfo v l F hC, by rw [List.append_nil]; exact ⟨F, hC, hFr⟩, Below.refl _ _, .inl rfl, grownBy_rfl _ _⟩
    | some ad => exact run_appE_A t ty base e z bytes ht hinfo hzs hsz v l [] ad c [] [] hown ⟨rfl, rfl⟩ (by simp) (fun j u hj => by simp at hj) hbytes h63 hbW
  · refine run_appE_A t ty base e z bytes ht hinfo hzs hsz v l ys ⟨b, off, none⟩ c F1 news hown hel (fun b hb => hr2 b (List.mem_cons_of_mem _ hb)) (fun j u hj => ?_) hbytes h63 hbW
    have e1 : (⟨b, off, none⟩ : Addr).add j = ⟨b, off + j, none⟩ := by
      unfold Addr.add; split
      · rename_i h; subst h; rfl
      · rfl
    rw [e1]; exact hc j u hj
end

/-! The run of an append as a step of a walk. -/
section
variable {P : Program} {W : World} {ops : Array Oper} {rest : List Oper} {o : Oper} {a : Act} {Q : Exit → Act → World → Prop} {R : Value → World → Prop}
theorem app_wp {K : Act → World → Prop} (s x : Operand) (t : TypeId) (ho : o.op = .call { callee := .builtin .append, args := #[s, x], argTypes := #[t, t] }) {v u : Value} (hs : a.eval s = v) (hx : a.eval x = u)
    (hrun : ∃ v' w', (Builtin.append_ #[t, t] o.type #[v, u]).run P W = .ok v' w' ∧ R v' w') (h : ∀ v' w', R v' w' → K (a.put o.dst v') w') : o.wp P a W K Q := by
  obtain ⟨v', w', hr, h1⟩ := hrun
  unfold Oper.wp execOp
  simp only [ho, resolve, invoke, builtin, Sem.run_bind, Sem.run_pure, Result.andThen_ok, List.map_toArray, List.map_cons, List.map_nil, hs, hx, hr]
  exact h v' w' h1
theorem app_list (hgd : o.guard = none) (s x : Operand) (t : TypeId) (ho : o.op = .call { callee := .builtin .append, args := #[s, x], argTypes := #[t, t] }) {v u : Value} (hs : a.eval s = v) (hx : a.eval x = u)
    (hrun : ∃ v' w', (Builtin.append_ #[t, t] o.type #[v, u]).run P W = .ok v' w' ∧ R v' w') (h : ∀ v' w', R v' w' → wpList P ops Q rest (a.put o.dst v') w') : wpList P ops Q (o :: rest) a W :=
  wpList_plain hgd fun _ hK => app_wp s x t ho hs hx hrun fun v' w' hR => hK _ _ (h v' w' hR)
theorem app_step {K : Act → World → Prop} {E : Prop} (hgd : o.guard = none) (s x : Operand) (t : TypeId) (ho : o.op = .call { callee := .builtin .append, args := #[s, x], argTypes := #[t, t] }) {v u : Value} (hs : a.eval s = v) (hx : a.eval x = u)
    (hrun : ∃ v' w', (Builtin.append_ #[t, t] o.type #[v, u]).run P W = .ok v' w' ∧ R v' w') (h : ∀ v' w', R v' w' → K (a.put o.dst v') w') : if Region.wanted o (yielded ops a.tmps) = true then Oper.wp P o a W K Q else E := by
  have hw : Region.wanted o (yielded ops a.tmps) = true := by simp [Region.wanted, hgd]
  rw [if_pos hw]
  exact app_wp s x t ho hs hx hrun h
end
end Go.Proofs.Ytblcmajhdndmfaa
