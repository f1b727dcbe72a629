/- Rows of the call's own whose elements lie within a set of blocks. No program in sight. -/
import Derived.Test.YtblcmajhdndmfaaApp
namespace Go.Proofs.Ytblcmajhdndmfaa
open Go.RowKit
set_option linter.unusedVariables false
set_option maxRecDepth 100000

section
variable {α : Type} [Rep α]
/-- .. whose elements lie in blocks of S. -/
def OwnS (w : World) (base : Nat) (t : TypeId) (v : Value) (l : List α) (S : Nat → Prop) : Prop := ∃ F, OwnC w base t v l F ∧ ∀ b, b ∈ F → S b
variable {w w' : World} {base : Nat} {t : TypeId} {v : Value} {l : List α} {S : Nat → Prop}
theorem OwnS.form (h : OwnS w base t v l S) : ∃ A c, v = .slice A l.length c := h.choose_spec.1.form
theorem OwnS.own_lt (h : OwnS w base t v l S) : ∀ g, v.ownBlock = some g → base ≤ g ∧ g < w.heap.size := h.choose_spec.1.own_lt
theorem OwnS.len (h : OwnS w base t v l S) : l.length ≤ maxLen := h.choose_spec.1.len
theorem OwnS.lit0 (w : World) (t : TypeId) (base : Nat) (hb : base ≤ w.heap.size) (S : Nat → Prop) : OwnS (α := α) (w.alloc (.cells #[] t)) base t (.slice (some ⟨w.heap.size, 0, none⟩) 0 0) [] S :=
  ⟨[], ⟨[], World.ownsRow_lit w #[] 0 hb (by simp) (by simp), ⟨rfl, rfl⟩, by simp⟩, by simp⟩
theorem OwnS.keep (h : OwnS w base t v l S) (hb : Below w.heap.size w w') (hS : ∀ b, S b → b < w.heap.size) : OwnS w' base t v l S :=
  let ⟨F, h1, h2⟩ := h; ⟨F, h1.below (fun b hm => hS b (h2 b hm)) hb, h2⟩
/-- What a row reads as where its own block and its elements' are as they were. -/
theorem OwnS.ss {A : Option Addr} {n c : Nat} (h : OwnS w base t (.slice A n c) l S) (w' : World) (S' : Nat → Prop) (hk : ∀ b, ((Value.slice A n c).ownBlock = some b ∨ S b) → w'.heap[b]? = w.heap[b]?) (hS : ∀ b, ((Value.slice A n c).ownBlock = some b ∨ S b) → S' b) : n = l.length ∧ SS w' S' l A c := by
  obtain ⟨F, h1, h2⟩ := h
  obtain ⟨hn, F', h3, h4⟩ := h1.slr
  have hF : ∀ b, b ∈ F' → (Value.slice A n c).ownBlock = some b ∨ S b := by
    rcases h4 with rfl | ⟨g, rfl, rfl, h5, h6, h7⟩
    · simp
    · intro b hb
      rcases List.mem_cons.1 hb with rfl | hb
      · exact .inl rfl
      · exact .inr (h2 b hb)
  exact ⟨hn, F', h3.keep fun b hb => hk b (hF b hb), fun b hb => hS b (hF b hb)⟩

theorem OwnS.mono {S' : Nat → Prop} (h : OwnS w base t v l S) (hS : ∀ b, S b → S' b) : OwnS w base t v l S' := let ⟨F, h1, h2⟩ := h; ⟨F, h1, fun b hb => hS b (h2 b hb)⟩

variable {P : Program} {W : World}
def AppS (W : World) (base : Nat) (e : TypeId) (v : Value) (l : List α) (S : Nat → Prop) (v' : Value) (w' : World) : Prop := OwnS w' base e v' l S ∧ Below base W w' ∧ (v'.ownBlock = v.ownBlock ∨ v'.ownBlock = some W.heap.size) ∧ W.grownBy w' v.ownBlock
theorem run_app1_S (t ty : TypeId) (base : Nat) (e : TypeId) (z : Value) (bytes : Nat) (ht : P.underlying t = some (.slice e))
    (hinfo : (P.info? e).map (fun i => (i.zero, i.size, i.bytes)) = some (some z, Rep.wd α, bytes)) (hzs : z.cells.size = Rep.wd α) (hsz : 0 < Rep.wd α)
    (v : Value) (l : List α) (el : α) (cs : List Value) (ad : Addr) (c : Nat) (S : Nat → Prop) (hown : OwnS W base e v l S) (hS : ∀ b, S b → b < W.heap.size ∧ v.ownBlock ≠ some b) (hr : RS W S el cs) (hcells : ∀ j u, cs[j]? = some u → W.cell? (ad.add j) = some u)
    (hbytes : (l.length + 1) * bytes ≤ 140737488355328) (h63 : l.length + 1 ≤ maxLen) (hbW : base ≤ W.heap.size) :
    ∃ v' w', (Builtin.append_ #[t, t] ty #[v, .slice (some ad) 1 c]).run P W = .ok v' w' ∧ AppS W base e v (l ++ [el]) S v' w' := by
  obtain ⟨F', h1', hr2⟩ := hr
  have hel : Elems W [el] F' cs := Elems.single h1'
  obtain ⟨i, hi, hz, hsize, hby⟩ := info_parts hinfo
  obtain ⟨F, hC, hlt⟩ := hown
  have hgl := hC.own_lt
  obtain ⟨xs, h1, h2, h3⟩ := hC
  have hF : ∀ g, v.ownBlock = some g → g ∉ F' := fun g hg hm => (hS g (hr2 g hm)).2 hg
  have hltS : ∀ b, b ∈ F ++ F' → S b := fun b hm => by
    rcases List.mem_append.1 hm with hm | hm
    · exact hlt b hm
    · exact hr2 b hm
  obtain ⟨v', w', hrun, h4, h5, _, h6⟩ := run_append_own_at (P := P) W base t ty e i z (Rep.wd α) bytes ht hi hz hsize hby hzs hsz v l.length xs h1 ad 1 c cs hel.len hcells hel.one h63 hbytes hbW
  exact ⟨v', w', hrun, ⟨F ++ F', OwnC.grown h2 h3 hel hF (fun b hb => (hS b (hltS b hb)).1) h4 h5 h6, hltS⟩, grown_below h5 hbW fun k hk => (hgl k hk).1, h6, h5⟩
theorem run_app_S (t ty : TypeId) (base : Nat) (e : TypeId) (z : Value) (bytes : Nat) (ht : P.underlying t = some (.slice e))
    (hinfo : (P.info? e).map (fun i => (i.zero, i.size, i.bytes)) = some (some z, Rep.wd α, bytes)) (hzs : z.cells.size = Rep.wd α) (hsz : 0 < Rep.wd α)
    (v : Value) (l ys : List α) (A : Option Addr) (c : Nat) (S S0 : Nat → Prop) (hown : OwnS W base e v l S) (hS : ∀ b, S b → b < W.heap.size ∧ v.ownBlock ≠ some b) (hr : SS W S0 ys A c) (hS0 : ∀ F xs, Elems W ys F xs → (∀ b, b ∈ F → S0 b) → ∀ b, b ∈ F → S b)
    (hbytes : (l.length + ys.length) * bytes ≤ 140737488355328) (h63 : l.length + ys.length ≤ maxLen) (hbW : base ≤ W.heap.size) :
    ∃ v' w', (Builtin.append_ #[t, t] ty #[v, .slice A ys.length c]).run P W = .ok v' w' ∧ AppS W base e v (l ++ ys) S v' w' := by
  have gen : ∀ (ad : Addr) (F' : List Nat) (news : List Value), Elems W ys F' news → (∀ b, b ∈ F' → S b) → (∀ j u, news[j]? = some u → W.cell? (ad.add j) = some u) → ∃ v' w', (Builtin.append_ #[t, t] ty #[v, .slice (some ad) ys.length c]).run P W = .ok v' w' ∧ AppS W base e v (l ++ ys) S v' w' := by
    intro ad F' news hel hr2 hcells
    obtain ⟨i, hi, hz, hsize, hby⟩ := info_parts hinfo
    obtain ⟨F, hC, hlt⟩ := hown
    have hgl := hC.own_lt
    obtain ⟨xs, h1, h2, h3⟩ := hC
    have hF : ∀ g, v.ownBlock = some g → g ∉ F' := fun g hg hm => (hS g (hr2 g hm)).2 hg
    have hltS : ∀ b, b ∈ F ++ F' → S b := fun b hm => by
      rcases List.mem_append.1 hm with hm | hm
      · exact hlt b hm
      · exact hr2 b hm
    obtain ⟨v', w', hrun, h4, h5, _, h6⟩ := run_append_own_at (P := P) W base t ty e i z (Rep.wd α) bytes ht hi hz hsize hby hzs hsz v l.length xs h1 ad ys.length c news hel.len hcells hel.one h63 hbytes hbW
    exact ⟨v', w', hrun, ⟨F ++ F', OwnC.grown h2 h3 hel hF (fun b hb => (hS b (hltS b hb)).1) h4 h5 h6, hltS⟩, grown_below h5 hbW fun k hk => (hgl k hk).1, h6, h5⟩
  obtain ⟨F0, ⟨hl1, hl2, hl3⟩, hr2⟩ := hr
  rcases hl3 with ⟨rfl, rfl, hn⟩ | ⟨b, off, F1, news, rfl, rfl, hel, hc⟩
  · cases A with
    | none =>
      rw [hn rfl]
      obtain ⟨F, hC, hFr⟩ := hown
      exact ⟨v, W, run_app_none base t ty e z bytes ht hinfo v l F hC, by rw [List.append_nil]; exact ⟨F, hC, hFr⟩, Below.refl _ _, .inl rfl, grownBy_rfl _ _⟩
    | some ad => exact gen ad [] [] ⟨rfl, rfl⟩ (by simp) (fun j u hj => by simp at hj)
  · refine gen ⟨b, off, none⟩ F1 news hel (hS0 F1 news hel fun b hb => hr2 b (List.mem_cons_of_mem _ hb)) (fun j u hj => ?_)
    have e1 : (⟨b, off, none⟩ : Addr).add j = ⟨b, off + j, none⟩ := by
      unfold Addr.add; split
      · rename_i h; subst h; rfl
      · rfl
    rw [e1]; exact hc j u hj
end
end Go.Proofs.Ytblcmajhdndmfaa
