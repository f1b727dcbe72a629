/- Part of a proof: contracts and plain laws. -/
import Derived.WalkKit
import Derived.Below
import Derived.OwnWalk
import Derived.WalkSpells
import Derived.WalkLawsBesides
import Derived.Deep.LoopGhost
import Derived.Deep.OwnRows
import Derived.Deep.AppendLies
import Derived.Deep.Draws
import Derived.Laws.Rows
import Derived.Lib.Hide
import Derived.Maps.AppendAt
set_option linter.unusedVariables false
set_option linter.unusedSimpArgs false
namespace Go.Proofs.YtlfblkekbcfjpaaGreatDoor
open Go.RowKit
set_option maxRecDepth 100000
def I64 (n : Int) : Prop := -9223372036854775808 ≤ n ∧ n ≤ 9223372036854775807
def CellsAt (w : World) (b off : Nat) (cs : List Value) : Prop := ∀ j v, cs[j]? = some v → w.cell? ⟨b, off + j, none⟩ = some v
theorem CellsAt.keep {w w' : World} {b off : Nat} {cs : List Value} (h : CellsAt w b off cs) (hb : w'.heap[b]? = w.heap[b]?) : CellsAt w' b off cs :=
 fun j v hj => (World.cell?_of_block (w := w) (a := ⟨b, off + j, none⟩) hb).trans (h j v hj)
theorem CellsAt.sub {w : World} {b off : Nat} {xs ys : List Value} {k : Nat} (h : CellsAt w b off xs) (hs : ∀ j v, ys[j]? = some v → xs[k + j]? = some v) : CellsAt w b (off + k) ys :=
 fun j v hj => by have := h (k + j) v (hs j v hj); rwa [← Nat.add_assoc] at this
theorem CellsAt.lt {w : World} {b off : Nat} {cs : List Value} (h : CellsAt w b off cs) (hc : 0 < cs.length) : b < w.heap.size := by
 have := h 0 cs[0] (List.getElem?_eq_getElem hc)
 exact World.block_lt_of_cell? w _ this
theorem CellsAt.c0 {w : World} {b off : Nat} {x : Value} {cs : List Value} (h : CellsAt w b off (x :: cs)) : w.cell? ⟨b, off, none⟩ = some x := h 0 x rfl
theorem CellsAt.c1 {w : World} {b off : Nat} {x0 x : Value} {cs : List Value} (h : CellsAt w b off (x0 :: x :: cs)) : w.cell? ⟨b, off + 1, none⟩ = some x := h 1 x rfl
theorem CellsAt.c2 {w : World} {b off : Nat} {x0 x1 x : Value} {cs : List Value} (h : CellsAt w b off (x0 :: x1 :: x :: cs)) : w.cell? ⟨b, off + 1 + 1, none⟩ = some x := h 2 x rfl
theorem CellsAt.c3 {w : World} {b off : Nat} {x0 x1 x2 x : Value} {cs : List Value} (h : CellsAt w b off (x0 :: x1 :: x2 :: x :: cs)) : w.cell? ⟨b, off + 1 + 1 + 1, none⟩ = some x := h 3 x rfl
theorem CellsAt.c4 {w : World} {b off : Nat} {x0 x1 x2 x3 x : Value} {cs : List Value} (h : CellsAt w b off (x0 :: x1 :: x2 :: x3 :: x :: cs)) : w.cell? ⟨b, off + 1 + 1 + 1 + 1, none⟩ = some x := h 4 x rfl
class Rep (α : Type) where
 wd : Nat
 rp : World → List Nat → α → List Value → Prop
 len : ∀ {w F a cs}, rp w F a cs → cs.length = wd
 one : ∀ {w F a cs}, rp w F a cs → ∀ u ∈ cs, u.oneCell' = true
 keep : ∀ {w w' F a cs}, rp w F a cs → (∀ b, b ∈ F → w'.heap[b]? = w.heap[b]?) → rp w' F a cs
instance : Rep Int where
 wd := 1
 rp := fun _ F n cs => F = [] ∧ cs = [.int .i64 n] ∧ I64 n
 len := by rintro _ _ _ _ ⟨_, rfl, _⟩; rfl
 one := by rintro _ _ _ _ ⟨_, rfl, _⟩ u hu; simp at hu; subst hu; rfl
 keep := fun h _ => h
instance : Rep Bool where
 wd := 1
 rp := fun _ F b cs => F = [] ∧ cs = [.bool b]
 len := by rintro _ _ _ _ ⟨_, rfl⟩; rfl
 one := by rintro _ _ _ _ ⟨_, rfl⟩ u hu; simp at hu; subst hu; rfl
 keep := fun h _ => h
instance : Rep UInt8 where
 wd := 1
 rp := fun _ F b cs => F = [] ∧ cs = [.int .u8 (b.toNat : Int)]
 len := by rintro _ _ _ _ ⟨_, rfl⟩; rfl
 one := by rintro _ _ _ _ ⟨_, rfl⟩ u hu; simp at hu; subst hu; rfl
 keep := fun h _ => h
instance : Rep ByteArray where
 wd := 1
 rp := fun _ F s cs => F = [] ∧ cs = [.string s] ∧ s.size ≤ maxLen
 len := by rintro _ _ _ _ ⟨_, rfl, _⟩; rfl
 one := by rintro _ _ _ _ ⟨_, rfl, _⟩ u hu; simp at hu; subst hu; rfl
 keep := fun h _ => h
section
variable {α : Type} [Rep α]
def Elems (w : World) : List α → List Nat → List Value → Prop
 | [], F, xs => F = [] ∧ xs = []
 | a :: l, F, xs => ∃ F1 F2 cs ys, F = F1 ++ F2 ∧ xs = cs ++ ys ∧ Rep.rp w F1 a cs ∧ Elems w l F2 ys
theorem Elems.len {w : World} : ∀ {l : List α} {F : List Nat} {xs : List Value}, Elems w l F xs → xs.length = l.length * Rep.wd α
 | [], _, _, ⟨_, h⟩ => by subst h; simp -implicitDefEqProofs -dsimp
 | _ :: l, _, _, ⟨_, _, _, _, _, hx, hr, he⟩ => by
  subst hx
  rw [List.length_append, Rep.len hr, he.len, List.length_cons, Nat.add_mul, Nat.one_mul, Nat.add_comm]
theorem Elems.one {w : World} : ∀ {l : List α} {F : List Nat} {xs : List Value}, Elems w l F xs → ∀ u ∈ xs, u.oneCell' = true
 | [], _, _, ⟨_, h⟩ => by subst h; simp -implicitDefEqProofs -dsimp
 | _ :: l, _, _, ⟨_, _, _, _, _, hx, hr, he⟩ => by
  subst hx
  intro u hu
  rcases List.mem_append.1 hu with hu | hu
  ·exact Rep.one hr u hu
  ·exact he.one u hu
theorem Elems.keep {w w' : World} : ∀ {l : List α} {F : List Nat} {xs : List Value}, Elems w l F xs → (∀ b, b ∈ F → w'.heap[b]? = w.heap[b]?) → Elems w' l F xs
 | [], _, _, h, _ => h
 | _ :: l, _, _, ⟨F1, F2, cs, ys, hF, hx, hr, he⟩, hk => by
  subst hF
  exact ⟨F1, F2, cs, ys, rfl, hx, Rep.keep hr fun b hb => hk b (List.mem_append_left _ hb), he.keep fun b hb => hk b (List.mem_append_right _ hb)⟩
theorem Elems.append {w : World} : ∀ {l l' : List α} {F F' : List Nat} {xs xs' : List Value}, Elems w l F xs → Elems w l' F' xs' → Elems w (l ++ l') (F ++ F') (xs ++ xs')
 | [], _, _, _, _, _, ⟨h1, h2⟩, h' => by subst h1 h2; exact h'
 | a :: l, _, _, _, _, _, ⟨F1, F2, cs, ys, hF, hx, hr, he⟩, h' => by
  subst hF hx
  exact ⟨F1, _, cs, _, by rw [List.append_assoc], by rw [List.append_assoc], hr, he.append h'⟩
theorem Elems.single {w : World} {a : α} {F : List Nat} {cs : List Value} (h : Rep.rp w F a cs) : Elems w [a] F cs :=
 ⟨F, [], cs, [], by simp, by simp, h, rfl, rfl⟩
theorem Elems.snoc {w : World} {l : List α} {a : α} {F F' : List Nat} {xs cs : List Value} (h : Elems w l F xs) (h' : Rep.rp w F' a cs) : Elems w (l ++ [a]) (F ++ F') (xs ++ cs) :=
 h.append (Elems.single h')
theorem Elems.get {w : World} : ∀ {l : List α} {F : List Nat} {xs : List Value}, Elems w l F xs → ∀ i (hi : i < l.length), ∃ F' cs, Rep.rp w F' l[i] cs ∧ (∀ b, b ∈ F' → b ∈ F) ∧ ∀ j v, cs[j]? = some v → xs[i * Rep.wd α + j]? = some v
 | [], _, _, _, i, hi => absurd hi (by simp -implicitDefEqProofs -dsimp)
 | a :: l, _, _, ⟨F1, F2, cs, ys, hF, hx, hr, he⟩, i, hi => by
  subst hF hx
  cases i with
  | zero =>
   refine ⟨F1, cs, hr, fun b hb => List.mem_append_left _ hb, fun j v hj => ?_⟩
   rw [Nat.zero_mul, Nat.zero_add, List.getElem?_append_left (List.getElem?_eq_some_iff.1 hj).1]
   exact hj
  | succ i =>
   obtain ⟨F', cs', hr', hs, hc⟩ := he.get i (by simpa using hi)
   refine ⟨F', cs', hr', fun b hb => List.mem_append_right _ (hs b hb), fun j v hj => ?_⟩
   have hl : cs.length = Rep.wd α := Rep.len hr
   rw [List.getElem?_append_right (by rw [hl, Nat.add_mul]; omega), ← hc j v hj]
   congr 1
   rw [hl, Nat.add_mul]; omega
theorem Elems.split {w : World} : ∀ {l l' : List α} {F : List Nat} {xs : List Value}, Elems w (l ++ l') F xs → ∃ F1 F2 xs1 xs2, F = F1 ++ F2 ∧ xs = xs1 ++ xs2 ∧ Elems w l F1 xs1 ∧ Elems w l' F2 xs2
 | [], _, F, xs, h => ⟨[], F, [], xs, rfl, rfl, ⟨rfl, rfl⟩, h⟩
 | a :: l, l', _, _, ⟨F1, F2, cs, ys, hF, hx, hr, he⟩ => by
  subst hF hx
  obtain ⟨G1, G2, y1, y2, h1, h2, h3, h4⟩ := Elems.split (l := l) (l' := l') he
  subst h1 h2
  exact ⟨F1 ++ G1, G2, cs ++ y1, y2, by rw [List.append_assoc], by rw [List.append_assoc], ⟨F1, G1, cs, y1, rfl, rfl, hr, h3⟩, h4⟩
def SlR (w : World) (F : List Nat) (l : List α) (A : Option Addr) (c : Nat) : Prop :=
 l.length ≤ c ∧ c ≤ maxLen ∧ ((l = [] ∧ F = [] ∧ (A = none → c = 0)) ∨ ∃ b off F' xs, A = some ⟨b, off, none⟩ ∧ F = b :: F' ∧ Elems w l F' xs ∧ CellsAt w b off xs)
theorem SlR.keep {w w' : World} {F : List Nat} {l : List α} {A : Option Addr} {c : Nat} (h : SlR w F l A c) (hk : ∀ b, b ∈ F → w'.heap[b]? = w.heap[b]?) : SlR w' F l A c := by
 obtain ⟨h1, h2, h3⟩ := h
 refine ⟨h1, h2, ?_⟩
 rcases h3 with h3 | ⟨b, off, F', xs, hA, hF, he, hc⟩
 ·exact .inl h3
 ·subst hF
  exact .inr ⟨b, off, F', xs, hA, rfl, he.keep fun b hb => hk b (List.mem_cons_of_mem _ hb), hc.keep (hk _ (List.mem_cons_self ..))⟩
instance : Rep (List α) where
 wd := 1
 rp := fun w F l cs => ∃ A c, cs = [.slice A l.length c] ∧ SlR w F l A c
 len := by rintro _ _ _ _ ⟨_, _, rfl, _⟩; rfl
 one := by rintro _ _ _ _ ⟨_, _, rfl, _⟩ u hu; simp at hu; subst hu; rfl
 keep := by rintro _ _ _ _ _ ⟨A, c, rfl, h⟩ hk; exact ⟨A, c, rfl, h.keep hk⟩
def RS (w : World) (S : Nat → Prop) (a : α) (cs : List Value) : Prop := ∃ F, Rep.rp w F a cs ∧ ∀ b, b ∈ F → S b
def SS (w : World) (S : Nat → Prop) (l : List α) (A : Option Addr) (c : Nat) : Prop := ∃ F, SlR w F l A c ∧ ∀ b, b ∈ F → S b
def RA (w : World) (a : α) (cs : List Value) : Prop := RS w (· < w.heap.size) a cs
def SA (w : World) (l : List α) (A : Option Addr) (c : Nat) : Prop := SS w (· < w.heap.size) l A c
theorem RS.keep {w w' : World} {S S' : Nat → Prop} {a : α} {cs : List Value} (h : RS w S a cs) (hk : ∀ b, S b → w'.heap[b]? = w.heap[b]?) (hs : ∀ b, S b → S' b) : RS w' S' a cs :=
 let ⟨F, h1, h2⟩ := h; ⟨F, Rep.keep h1 fun b hb => hk b (h2 b hb), fun b hb => hs b (h2 b hb)⟩
theorem SS.keep {w w' : World} {S S' : Nat → Prop} {l : List α} {A : Option Addr} {c : Nat} (h : SS w S l A c) (hk : ∀ b, S b → w'.heap[b]? = w.heap[b]?) (hs : ∀ b, S b → S' b) : SS w' S' l A c :=
 let ⟨F, h1, h2⟩ := h; ⟨F, h1.keep fun b hb => hk b (h2 b hb), fun b hb => hs b (h2 b hb)⟩
theorem RA.below {w w' : World} {a : α} {cs : List Value} (h : RA w a cs) (hb : Below w.heap.size w w') : RA w' a cs :=
 RS.keep h (fun b h => hb.block b h) (fun b h => Nat.lt_of_lt_of_le h hb.size)
theorem SA.below {w w' : World} {l : List α} {A : Option Addr} {c : Nat} (h : SA w l A c) (hb : Below w.heap.size w w') : SA w' l A c :=
 SS.keep h (fun b h => hb.block b h) (fun b h => Nat.lt_of_lt_of_le h hb.size)
theorem RA.drew {w : World} {a : α} {cs : List Value} (h : RA w a cs) : RA w.drew a cs := RS.keep h (fun b h => rfl) (fun b h => h)
theorem SA.drew {w : World} {l : List α} {A : Option Addr} {c : Nat} (h : SA w l A c) : SA w.drew l A c := SS.keep h (fun b h => rfl) (fun b h => h)
theorem RA.drewN {w : World} {a : α} {cs : List Value} (h : RA w a cs) (n : Nat) : RA (w.drewN n) a cs := RS.keep h (fun b h => rfl) (fun b h => h)
theorem SA.drewN {w : World} {l : List α} {A : Option Addr} {c : Nat} (h : SA w l A c) (n : Nat) : SA (w.drewN n) l A c := SS.keep h (fun b h => rfl) (fun b h => h)
theorem RA.sa {w : World} {l : List α} {cs : List Value} (h : RA w l cs) : ∃ A c, cs = [.slice A l.length c] ∧ SA w l A c :=
 let ⟨F, ⟨A, c, h1, h2⟩, h3⟩ := h; ⟨A, c, h1, F, h2, h3⟩
theorem SA.len {w : World} {l : List α} {A : Option Addr} {c : Nat} (h : SA w l A c) : l.length ≤ c ∧ c ≤ maxLen := let ⟨_, h1, _⟩ := h; ⟨h1.1, h1.2.1⟩
theorem SA.at {w : World} {l : List α} {A : Option Addr} {c : Nat} (h : SA w l A c) {i : Nat} (hi : i < l.length) :
  ∃ b off cs, A = some ⟨b, off, none⟩ ∧ b < w.heap.size ∧ RA w l[i] cs ∧ CellsAt w b (off + i * Rep.wd α) cs := by
 obtain ⟨F, ⟨h1, h2, h3⟩, hF⟩ := h
 rcases h3 with ⟨rfl, _⟩ | ⟨b, off, F', xs, hA, rfl, he, hc⟩
 ·simp at hi
 ·obtain ⟨F1, cs, hr, hs, hx⟩ := he.get i hi
  exact ⟨b, off, cs, hA, hF b (List.mem_cons_self ..), ⟨F1, hr, fun b hb => hF b (List.mem_cons_of_mem _ (hs b hb))⟩, hc.sub hx⟩
end
theorem SA.byte_at {w : World} {l : List UInt8} {A : Option Addr} {c : Nat} (h : SA w l A c) {i : Nat} (hi : i < l.length) :
  ∃ b off, A = some ⟨b, off, none⟩ ∧ b < w.heap.size ∧ w.cell? ⟨b, off + i, none⟩ = some (.int .u8 (l[i].toNat : Int)) := by
 obtain ⟨b, off, cs, rfl, hb, ⟨F, ⟨_, rfl⟩, _⟩, hc⟩ := h.at hi
 exact ⟨b, off, rfl, hb, by simpa [Rep.wd] using hc.c0⟩
theorem bAl {a w : World} (h : Below a.heap.size a w) (o : Obj) : Below a.heap.size a (w.alloc o) := h.alloc h.size o
theorem bTr {a w w' : World} (h : Below a.heap.size a w) (h' : Below w.heap.size w w') : Below a.heap.size a w' := h.trans (h'.mono h.size)
theorem bRf (a : World) : Below a.heap.size a a := Below.refl _ _
def Blk (w : World) (g : Nat) (t : TypeId) (cs : Array Value) : Prop := w.heap[g]? = some (.cells cs t (0, 0))
section
variable {w w' : World} {g : Nat} {t : TypeId} {cs : Array Value}
theorem Blk.lt (h : Blk w g t cs) : g < w.heap.size := by
 rcases Nat.lt_or_ge g w.heap.size with hlt | hge
 ·exact hlt
 ·unfold Blk at h; rw [Array.getElem?_eq_none hge] at h; cases h
theorem Blk.cell (h : Blk w g t cs) (i : Nat) : w.cell? ⟨g, i, none⟩ = cs[i]? := cell_of_row w g i cs t (0, 0) h
theorem Blk.frozen (h : Blk w g t cs) (i : Nat) : w.frozen? ⟨g, i, none⟩ = false := by
 unfold Blk at h
 simp -implicitDefEqProofs -dsimp [World.frozen?, h]
theorem Blk.new (w : World) (t : TypeId) (cs : Array Value) : Blk (w.alloc (.cells cs t)) w.heap.size t cs := heap_alloc_new w _
theorem Blk.drew (h : Blk w g t cs) : Blk w.drew g t cs := h
theorem Blk.drewN (h : Blk w g t cs) (n : Nat) : Blk (w.drewN n) g t cs := h
theorem Blk.alloc (h : Blk w g t cs) (o : Obj) : Blk (w.alloc o) g t cs := (Below.heap_alloc w o g h.lt).trans h
theorem Blk.set_ (h : Blk w g t cs) (i : Nat) (u : Value) : Blk (w.setCell ⟨g, i, none⟩ u) g t (cs.setIfInBounds i u) := by
 unfold Blk at h ⊢
 simp -implicitDefEqProofs -dsimp [World.setCell, Array.getElem?_modify, h]
theorem Blk.far (h : Blk w g t cs) {p : Addr} (hp : g ≠ p.block) (u : Value) : Blk (w.setCell p u) g t cs := (Below.heap_setCell w p u g hp).trans h
theorem Blk.below (h : Blk w g t cs) (hb : Below w.heap.size w w') : Blk w' g t cs := (hb.block g h.lt).trans h
theorem Blk.c1 {a : Value} (h : Blk w g t #[a]) : w.cell? ⟨g, 0, none⟩ = some a := h.cell 0
theorem Blk.c2 {a b : Value} (h : Blk w g t #[a, b]) : w.cell? ⟨g, 0, none⟩ = some a ∧ w.cell? ⟨g, 1, none⟩ = some b := ⟨h.cell 0, h.cell 1⟩
theorem Blk.c3 {a b c : Value} (h : Blk w g t #[a, b, c]) : w.cell? ⟨g, 0, none⟩ = some a ∧ w.cell? ⟨g, 1, none⟩ = some b ∧ w.cell? ⟨g, 2, none⟩ = some c := ⟨h.cell 0, h.cell 1, h.cell 2⟩
theorem Blk.c5 {a b c d e : Value} (h : Blk w g t #[a, b, c, d, e]) : w.cell? ⟨g, 0, none⟩ = some a ∧ w.cell? ⟨g, 1, none⟩ = some b ∧ w.cell? ⟨g, 2, none⟩ = some c ∧ w.cell? ⟨g, 3, none⟩ = some d ∧ w.cell? ⟨g, 4, none⟩ = some e :=
 ⟨h.cell 0, h.cell 1, h.cell 2, h.cell 3, h.cell 4⟩
theorem Blk.z5 {a b c d e : Value} (h : Blk w g t #[a, b, c, d, e]) : w.frozen? ⟨g, 0, none⟩ = false ∧ w.frozen? ⟨g, 1, none⟩ = false ∧ w.frozen? ⟨g, 2, none⟩ = false ∧ w.frozen? ⟨g, 3, none⟩ = false ∧ w.frozen? ⟨g, 4, none⟩ = false ∧ w.cell? ⟨g, 0, none⟩ = some a ∧ w.cell? ⟨g, 1, none⟩ = some b ∧ w.cell? ⟨g, 2, none⟩ = some c ∧ w.cell? ⟨g, 3, none⟩ = some d ∧ w.cell? ⟨g, 4, none⟩ = some e ∧ g < w.heap.size :=
 ⟨h.frozen 0, h.frozen 1, h.frozen 2, h.frozen 3, h.frozen 4, h.cell 0, h.cell 1, h.cell 2, h.cell 3, h.cell 4, h.lt⟩
theorem Blk.f5 (h : Blk w g t cs) : w.frozen? ⟨g, 0, none⟩ = false ∧ w.frozen? ⟨g, 1, none⟩ = false ∧ w.frozen? ⟨g, 2, none⟩ = false ∧ w.frozen? ⟨g, 3, none⟩ = false ∧ w.frozen? ⟨g, 4, none⟩ = false :=
 ⟨h.frozen 0, h.frozen 1, h.frozen 2, h.frozen 3, h.frozen 4⟩
end
def Plain (w : World) (b : Nat) : Prop := ∃ cs t, w.heap[b]? = some (.cells cs t (0, 0))
theorem Plain.lt {w : World} {b : Nat} (h : Plain w b) : b < w.heap.size := by
 obtain ⟨cs, t, h⟩ := h
 rcases Nat.lt_or_ge b w.heap.size with hlt | hge
 ·exact hlt
 ·rw [Array.getElem?_eq_none hge] at h; cases h
theorem Plain.keep {w w' : World} {b : Nat} (h : Plain w b) (hk : w'.heap[b]? = w.heap[b]?) : Plain w' b := let ⟨cs, t, h⟩ := h; ⟨cs, t, hk.trans h⟩
theorem Plain.set {w : World} {b : Nat} (h : Plain w b) (p : Addr) (u : Value) : Plain (w.setCell p u) b := by
 by_cases e : b = p.block
 ·subst e
  obtain ⟨cs, t, h⟩ := h
  refine ⟨if p.spot.isSome then cs else cs.setIfInBounds p.off u, t, ?_⟩
  simp only [World.setCell, Array.getElem?_modify, if_pos, h, Option.map_some]
 ·exact h.keep (Below.heap_setCell w p u b e)
def Fresh (base : Nat) (w : World) (F : List Nat) : Prop := F.Nodup ∧ ∀ b, b ∈ F → base ≤ b ∧ Plain w b
theorem Fresh.nil (base : Nat) (w : World) : Fresh base w [] := ⟨List.nodup_nil, by simp⟩
theorem Fresh.keep {base : Nat} {w w' : World} {F : List Nat} (h : Fresh base w F) (hk : ∀ b, b ∈ F → w'.heap[b]? = w.heap[b]?) : Fresh base w' F :=
 ⟨h.1, fun b hb => ⟨(h.2 b hb).1, (h.2 b hb).2.keep (hk b hb)⟩⟩
theorem Fresh.below {base : Nat} {w w' : World} {F : List Nat} (h : Fresh base w F) (hb : Below w.heap.size w w') : Fresh base w' F :=
 h.keep fun b hm => hb.block b (h.2 b hm).2.lt
theorem Fresh.mono {base base' : Nat} {w : World} {F : List Nat} (h : Fresh base w F) (hb : base' ≤ base) : Fresh base' w F :=
 ⟨h.1, fun b hm => ⟨Nat.le_trans hb (h.2 b hm).1, (h.2 b hm).2⟩⟩
section
variable {α : Type} [Rep α]
def RF (base : Nat) (w : World) (a : α) (cs : List Value) : Prop := ∃ F, Rep.rp w F a cs ∧ Fresh base w F
def SF (base : Nat) (w : World) (l : List α) (A : Option Addr) (c : Nat) : Prop := ∃ F, SlR w F l A c ∧ Fresh base w F
theorem SF.sa {base : Nat} {w : World} {l : List α} {A : Option Addr} {c : Nat} (h : SF base w l A c) : SA w l A c := let ⟨F, h1, h2⟩ := h; ⟨F, h1, fun b hb => (h2.2 b hb).2.lt⟩
theorem RF.below {base : Nat} {w w' : World} {a : α} {cs : List Value} (h : RF base w a cs) (hb : Below w.heap.size w w') : RF base w' a cs :=
 let ⟨F, h1, h2⟩ := h; ⟨F, Rep.keep h1 fun b hm => hb.block b (h2.2 b hm).2.lt, h2.below hb⟩
theorem SF.below {base : Nat} {w w' : World} {l : List α} {A : Option Addr} {c : Nat} (h : SF base w l A c) (hb : Below w.heap.size w w') : SF base w' l A c :=
 let ⟨F, h1, h2⟩ := h; ⟨F, h1.keep fun b hm => hb.block b (h2.2 b hm).2.lt, h2.below hb⟩
theorem RF.mono {base base' : Nat} {w : World} {a : α} {cs : List Value} (h : RF base w a cs) (hb : base' ≤ base) : RF base' w a cs := let ⟨F, h1, h2⟩ := h; ⟨F, h1, h2.mono hb⟩
theorem SF.mono {base base' : Nat} {w : World} {l : List α} {A : Option Addr} {c : Nat} (h : SF base w l A c) (hb : base' ≤ base) : SF base' w l A c := let ⟨F, h1, h2⟩ := h; ⟨F, h1, h2.mono hb⟩
theorem Fresh.set {base : Nat} {w : World} {F : List Nat} (h : Fresh base w F) {p : Addr} (hp : p.block < base) (u : Value) : Fresh base (w.setCell p u) F :=
 h.keep fun b hm => Below.heap_setCell w p u b (fun e => by have := (h.2 b hm).1; omega)
theorem RF.set {base : Nat} {w : World} {a : α} {cs : List Value} (h : RF base w a cs) {p : Addr} (hp : p.block < base) (u : Value) : RF base (w.setCell p u) a cs :=
 let ⟨F, h1, h2⟩ := h; ⟨F, Rep.keep h1 fun b hm => Below.heap_setCell w p u b (fun e => by have := (h2.2 b hm).1; omega), h2.set hp u⟩
theorem SF.set {base : Nat} {w : World} {l : List α} {A : Option Addr} {c : Nat} (h : SF base w l A c) {p : Addr} (hp : p.block < base) (u : Value) : SF base (w.setCell p u) l A c :=
 let ⟨F, h1, h2⟩ := h; ⟨F, h1.keep fun b hm => Below.heap_setCell w p u b (fun e => by have := (h2.2 b hm).1; omega), h2.set hp u⟩
theorem RF.sf {base : Nat} {w : World} {l : List α} {cs : List Value} (h : RF base w l cs) : ∃ A c, cs = [.slice A l.length c] ∧ SF base w l A c :=
 let ⟨F, ⟨A, c, h1, h2⟩, h3⟩ := h; ⟨A, c, h1, F, h2, h3⟩
def stores (w : World) (g off : Nat) : List Value → World
 | [] => w
 | c :: cs => stores (w.setCell ⟨g, off, none⟩ c) g (off + 1) cs
def OwnC (w : World) (base : Nat) (t : TypeId) (v : Value) (l : List α) (F : List Nat) : Prop :=
 ∃ xs, w.ownsRow base t (Rep.wd α) v l.length xs ∧ Elems w l F xs ∧ ∀ g, v.ownBlock = some g → g ∉ F
def OwnF (w : World) (base : Nat) (t : TypeId) (v : Value) (l : List α) : Prop := ∃ F, OwnC w base t v l F ∧ Fresh base w F
def OwnA (w : World) (base : Nat) (t : TypeId) (v : Value) (l : List α) : Prop := ∃ F, OwnC w base t v l F ∧ ∀ b, b ∈ F → b < w.heap.size
theorem ownsRow_below {w w' : World} {base : Nat} {t : TypeId} {size n : Nat} {v : Value} {xs : List Value} (h : w.ownsRow base t size v n xs) (hb : Below w.heap.size w w') : w'.ownsRow base t size v n xs :=
 h.kept (row := none) ⟨hb.os, hb.tape, hb.output, hb.size, fun k hk _ => hb.block k hk⟩ (by cases h' : v.ownBlock <;> simp -implicitDefEqProofs -dsimp)
theorem OwnC.below {w w' : World} {base : Nat} {t : TypeId} {v : Value} {l : List α} {F : List Nat} (h : OwnC w base t v l F) (hF : ∀ b, b ∈ F → b < w.heap.size) (hb : Below w.heap.size w w') : OwnC w' base t v l F :=
 let ⟨xs, h1, h2, h3⟩ := h; ⟨xs, ownsRow_below h1 hb, h2.keep fun b hm => hb.block b (hF b hm), h3⟩
theorem OwnF.below {w w' : World} {base : Nat} {t : TypeId} {v : Value} {l : List α} (h : OwnF w base t v l) (hb : Below w.heap.size w w') : OwnF w' base t v l :=
 let ⟨F, h1, h2⟩ := h; ⟨F, h1.below (fun b hm => (h2.2 b hm).2.lt) hb, h2.below hb⟩
theorem OwnA.below {w w' : World} {base : Nat} {t : TypeId} {v : Value} {l : List α} (h : OwnA w base t v l) (hb : Below w.heap.size w w') : OwnA w' base t v l :=
 let ⟨F, h1, h2⟩ := h; ⟨F, h1.below h2 hb, fun b hm => Nat.lt_of_lt_of_le (h2 b hm) hb.size⟩
theorem OwnF.a {w : World} {base : Nat} {t : TypeId} {v : Value} {l : List α} (h : OwnF w base t v l) : OwnA w base t v l :=
 let ⟨F, h1, h2⟩ := h; ⟨F, h1, fun b hm => (h2.2 b hm).2.lt⟩
theorem OwnC.slr {w : World} {base : Nat} {t : TypeId} {A : Option Addr} {n c : Nat} {l : List α} {F : List Nat} (h : OwnC w base t (.slice A n c) l F) :
  n = l.length ∧ ∃ F', SlR w F' l A c ∧ (F' = [] ∨ ∃ g, A = some ⟨g, 0, none⟩ ∧ F' = g :: F ∧ base ≤ g ∧ Plain w g ∧ g ∉ F) := by
 obtain ⟨xs, hown, he, hg⟩ := h
 have hown' := hown
 obtain ⟨h0, h1⟩ := hown'
 rcases h1 with ⟨hv, hn⟩ | ⟨g, cap, cur, hv, hb, hh, hn, hm, hs, ht⟩
 ·injection hv with e1 e2 e3
  subst e1 e2 e3
  have : l = [] := List.eq_nil_of_length_eq_zero hn
  subst this
  exact ⟨rfl, [], ⟨by simp, by simp, .inl ⟨rfl, rfl, fun _ => rfl⟩⟩, .inl rfl⟩
 ·injection hv with e1 e2 e3
  subst e1 e2 e3
  refine ⟨rfl, g :: F, ⟨hn, hm, .inr ⟨g, 0, F, xs, rfl, rfl, he, fun j v hj => ?_⟩⟩, .inr ⟨g, rfl, rfl, hb, ⟨_, _, hh⟩, hg g rfl⟩⟩
  have hl : j < xs.length := (List.getElem?_eq_some_iff.1 hj).1
  rw [Nat.zero_add, hown.cellAt j (by rw [← h0]; exact hl)]
  exact hj
theorem OwnF.sf {w : World} {base : Nat} {t : TypeId} {A : Option Addr} {n c : Nat} {l : List α} (h : OwnF w base t (.slice A n c) l) : n = l.length ∧ SF base w l A c := by
 obtain ⟨F, h1, h2⟩ := h
 obtain ⟨hn, F', h3, h4⟩ := h1.slr
 refine ⟨hn, F', h3, ?_⟩
 rcases h4 with rfl | ⟨g, _, rfl, h5, h6, h7⟩
 ·exact Fresh.nil _ _
 ·refine ⟨List.nodup_cons.2 ⟨h7, h2.1⟩, fun b hb => ?_⟩
  rcases List.mem_cons.1 hb with rfl | hb
  ·exact ⟨h5, h6⟩
  ·exact h2.2 b hb
theorem OwnA.sa {w : World} {base : Nat} {t : TypeId} {A : Option Addr} {n c : Nat} {l : List α} (h : OwnA w base t (.slice A n c) l) : n = l.length ∧ SA w l A c := by
 obtain ⟨F, h1, h2⟩ := h
 obtain ⟨hn, F', h3, h4⟩ := h1.slr
 refine ⟨hn, F', h3, ?_⟩
 rcases h4 with rfl | ⟨g, _, rfl, h5, h6, h7⟩
 ·simp -implicitDefEqProofs -dsimp
 ·intro b hb
  rcases List.mem_cons.1 hb with rfl | hb
  ·exact h6.lt
  ·exact h2 b hb
theorem Elems.zeros {z : Value} {a : α} (w : World) (hz : Rep.rp w [] a z.cells.toList) : ∀ n, Elems w (List.replicate n a) [] (List.replicate n z.cells.toList).flatten
 | 0 => ⟨rfl, rfl⟩
 | n + 1 => ⟨[], [], _, _, rfl, rfl, hz, Elems.zeros w hz n⟩
theorem madeCells_flat (z : Array Value) (k n : Nat) (hk : z.size = k) (h0 : 0 < k) : (madeCells z (n * k)).toList = (List.replicate n z.toList).flatten := by
 subst hk
 apply List.ext_getElem?
 intro i
 simp only [madeCells, Array.toList_map, Array.toList_range, List.getElem?_map]
 induction n generalizing i with
 | zero => simp -implicitDefEqProofs -dsimp
 | succ n ih =>
  rw [List.replicate_succ, List.flatten_cons]
  by_cases hi : i < z.size
  ·rw [List.getElem?_append_left (by simpa using hi), List.getElem?_range (by rw [Nat.add_mul]; omega), Option.map_some, Nat.mod_eq_of_lt hi]
   simp -implicitDefEqProofs -dsimp [hi]
  ·rw [List.getElem?_append_right (by simpa using Nat.le_of_not_lt hi), Array.length_toList, ← ih]
   by_cases hj : i < (n + 1) * z.size
   ·rw [List.getElem?_range hj, List.getElem?_range (by rw [Nat.add_mul] at hj; omega), Option.map_some, Option.map_some]
    congr 2
    rw [Nat.mod_eq_sub_mod (by omega)]
   ·rw [List.getElem?_eq_none (by simpa using Nat.le_of_not_lt hj), List.getElem?_eq_none (by rw [Nat.add_mul] at hj; simp -implicitDefEqProofs -dsimp; omega)]
theorem OwnF.made {z : Value} {a : α} (w : World) (t : TypeId) (n : Nat) (hz : ∀ w, Rep.rp w [] a z.cells.toList) (hn : n ≤ maxLen) (h0 : 0 < Rep.wd α) :
  OwnF (w.alloc (.cells (madeCells z.cells (n * Rep.wd α)) t)) w.heap.size t (.slice (some ⟨w.heap.size, 0, none⟩) n n) (List.replicate n a) := by
 have hs : z.cells.size = Rep.wd α := by have := Rep.len (hz w); simpa using this
 refine ⟨[], ⟨_, by rw [List.length_replicate]; exact World.ownsRow_lit w (madeCells z.cells (n * Rep.wd α)) n (Nat.le_refl _) hn (size_madeCells _ _), ?_, by simp⟩, Fresh.nil _ _⟩
 rw [madeCells_flat _ _ _ hs h0]
 exact Elems.zeros _ (hz _) n
end
end Go.Proofs.YtlfblkekbcfjpaaGreatDoor
namespace Go.Proofs.YtlfblkekbcfjpaaGreatDoor
open Go.RowKit
set_option maxRecDepth 100000
theorem stores_heap_other (g : Nat) : ∀ (cs : List Value) (w : World) (off : Nat) (b : Nat), b ≠ g → (stores w g off cs).heap[b]? = w.heap[b]?
 | [], _, _, _, _ => rfl
 | c :: cs, w, off, b, hb => (stores_heap_other g cs _ (off + 1) b hb).trans (Below.heap_setCell w ⟨g, off, none⟩ c b hb)
theorem stores_size (g : Nat) : ∀ (cs : List Value) (w : World) (off : Nat), (stores w g off cs).heap.size = w.heap.size
 | [], _, _ => rfl
 | c :: cs, w, off => (stores_size g cs _ (off + 1)).trans (by simp -implicitDefEqProofs -dsimp [World.setCell])
theorem stores_rest (g : Nat) : ∀ (cs : List Value) (w : World) (off : Nat), (stores w g off cs).os = w.os ∧ (stores w g off cs).tape = w.tape ∧ (stores w g off cs).output = w.output
 | [], _, _ => ⟨rfl, rfl, rfl⟩
 | c :: cs, w, off => stores_rest g cs (w.setCell ⟨g, off, none⟩ c) (off + 1)
theorem stores_plain (g : Nat) : ∀ (cs : List Value) (w : World) (off b : Nat), Plain w b → Plain (stores w g off cs) b
 | [], _, _, _, h => h
 | c :: cs, w, off, b, h => stores_plain g cs _ (off + 1) b (h.set _ _)
theorem stores_grown (w : World) (g off : Nat) (cs : List Value) : w.grownBy (stores w g off cs) (some g) :=
 ⟨(stores_rest g cs w off).1, (stores_rest g cs w off).2.1, (stores_rest g cs w off).2.2, Nat.le_of_eq (stores_size g cs w off).symm, fun k _ hk => stores_heap_other g cs w off k (fun e => hk (by rw [e]))⟩
theorem bStores {B : Nat} {a w : World} (h : Below B a w) {g : Nat} (hg : B ≤ g) (hB : B ≤ w.heap.size) (off : Nat) (cs : List Value) : Below B a (stores w g off cs) :=
 h.grown (stores_grown w g off cs) hB (fun k hk => by injection hk with hk; omega)
def splice : List Value → Nat → List Value → List Value
 | xs, _, [] => xs
 | xs, off, c :: cs => splice (xs.set off c) (off + 1) cs
theorem splice_eq : ∀ (cs xs : List Value) (off : Nat), off + cs.length ≤ xs.length → splice xs off cs = xs.take off ++ (cs ++ xs.drop (off + cs.length))
 | [], xs, off, h => by simp -implicitDefEqProofs -dsimp [splice]
 | c :: cs, xs, off, h => by
  rw [splice, splice_eq cs _ (off + 1) (by simp at h ⊢; omega)]
  have hlt : off < xs.length := by simp at h; omega
  rw [List.take_set, List.take_succ_eq_append_getElem hlt, List.set_append_right _ _ (by simp -implicitDefEqProofs -dsimp; omega)]
  rw [List.drop_set_of_lt (by omega)]
  simp only [List.length_take, List.length_cons]
  rw [Nat.min_eq_left (by omega)]
  simp -implicitDefEqProofs -dsimp [Nat.add_assoc, Nat.add_comm 1]
theorem ownsRow_stores {base : Nat} {t : TypeId} {size n g c : Nat} : ∀ (cs xs : List Value) (w : World) (off : Nat), w.ownsRow base t size (.slice (some ⟨g, 0, none⟩) n c) n xs →
  (stores w g off cs).ownsRow base t size (.slice (some ⟨g, 0, none⟩) n c) n (splice xs off cs)
 | [], _, _, _, h => h
 | u :: cs, xs, w, off, h => ownsRow_stores cs _ _ (off + 1) (h.stored off u).1
section
variable {α : Type} [Rep α]
theorem Elems.set {w : World} {a : α} {F' : List Nat} {cs : List Value} (hr : Rep.rp w F' a cs) : ∀ {l : List α} {F : List Nat} {xs : List Value}, Elems w l F xs → ∀ i, i < l.length →
  ∃ F1 F2 F3, F = F1 ++ (F2 ++ F3) ∧ Elems w (l.set i a) (F1 ++ (F' ++ F3)) (xs.take (i * Rep.wd α) ++ (cs ++ xs.drop (i * Rep.wd α + cs.length)))
 | [], _, _, _, i, hi => absurd hi (by simp -implicitDefEqProofs -dsimp)
 | a0 :: l, _, _, ⟨G1, G2, cs0, ys, hF, hx, hr0, he⟩, i, hi => by
  subst hF hx
  have hl : cs.length = Rep.wd α := Rep.len hr
  have hl0 : cs0.length = Rep.wd α := Rep.len hr0
  cases i with
  | zero =>
   refine ⟨[], G1, G2, rfl, F', G2, cs, ys, by simp, ?_, hr, he⟩
   rw [Nat.zero_mul, List.take_zero, List.nil_append, Nat.zero_add, hl, ← hl0, List.drop_left]
  | succ i =>
   obtain ⟨F1, F2, F3, hF, he'⟩ := Elems.set hr he i (by simpa using hi)
   subst hF
   refine ⟨G1 ++ F1, F2, F3, by simp, G1, F1 ++ (F' ++ F3), cs0, _, by simp, ?_, hr0, he'⟩
   have e : (i + 1) * Rep.wd α = cs0.length + i * Rep.wd α := by rw [hl0, Nat.add_mul]; omega
   rw [e, List.take_append, List.take_of_length_le (by omega), Nat.add_sub_cancel_left, Nat.add_assoc, List.drop_append, List.drop_of_length_le (by omega), List.nil_append, Nat.add_sub_cancel_left, List.append_assoc]
theorem OwnC.stored {w : World} {base : Nat} {t : TypeId} {g n c : Nat} {l : List α} {F F' : List Nat} (h : OwnC w base t (.slice (some ⟨g, 0, none⟩) n c) l F) {i : Nat} (hi : i < l.length) {a : α} {cs : List Value}
  (hr : Rep.rp w F' a cs) (hg : g ∉ F') : ∃ F1 F2 F3, F = F1 ++ (F2 ++ F3) ∧ OwnC (stores w g (i * Rep.wd α) cs) base t (.slice (some ⟨g, 0, none⟩) n c) (l.set i a) (F1 ++ (F' ++ F3)) := by
 obtain ⟨xs, h1, h2, h3⟩ := h
 have hn : n = l.length := by
  rcases h1.2 with ⟨hv, _⟩ | ⟨_, _, _, hv, _⟩
  ·cases hv
  ·injection hv
 subst hn
 obtain ⟨F1, F2, F3, hF, he⟩ := Elems.set hr h2 i hi
 have hg1 : g ∉ F := h3 g rfl
 have hg2 : g ∉ F1 ++ (F' ++ F3) := by
  subst hF
  simp only [List.mem_append, not_or] at hg1 ⊢
  exact ⟨hg1.1, hg, hg1.2.2⟩
 have hlen := h2.len
 have hcl : cs.length = Rep.wd α := Rep.len hr
 have hle : i * Rep.wd α + cs.length ≤ xs.length := by
  rw [hlen, hcl]
  calc i * Rep.wd α + Rep.wd α = (i + 1) * Rep.wd α := by rw [Nat.add_mul, Nat.one_mul]
   _ ≤ l.length * Rep.wd α := Nat.mul_le_mul_right _ hi
 refine ⟨F1, F2, F3, hF, _, by rw [List.length_set]; exact ownsRow_stores cs xs w _ h1, ?_, fun g' hg' => ?_⟩
 ·rw [splice_eq cs xs _ hle]
  exact he.keep fun b hb => stores_heap_other g cs w _ b (fun e => hg2 (e ▸ hb))
 ·simp only [Value.ownBlock, Option.some.injEq] at hg'
  exact hg' ▸ hg2
theorem OwnC.facts {w : World} {base : Nat} {t : TypeId} {g n c : Nat} {l : List α} {F : List Nat} (h : OwnC w base t (.slice (some ⟨g, 0, none⟩) n c) l F) {i j : Nat} (hi : i < l.length) (hj : j < Rep.wd α) :
  (∃ u, w.cell? ⟨g, i * Rep.wd α + j, none⟩ = some u) ∧ w.frozen? ⟨g, i * Rep.wd α + j, none⟩ = false := by
 obtain ⟨xs, h1, h2, h3⟩ := h
 have hn : n = l.length := by
  rcases h1.2 with ⟨hv, _⟩ | ⟨_, _, _, hv, _⟩
  ·cases hv
  ·injection hv
 subst hn
 have hlt : i * Rep.wd α + j < l.length * Rep.wd α := by
  calc i * Rep.wd α + j < i * Rep.wd α + Rep.wd α := by omega
   _ = (i + 1) * Rep.wd α := by rw [Nat.add_mul, Nat.one_mul]
   _ ≤ l.length * Rep.wd α := Nat.mul_le_mul_right _ hi
 refine ⟨?_, h1.frozenAt _⟩
 rw [h1.cellAt _ hlt]
 exact ⟨_, List.getElem?_eq_getElem (by rw [h2.len]; exact hlt)⟩
theorem OwnC.at {w : World} {base : Nat} {t : TypeId} {g n c : Nat} {l : List α} {F : List Nat} (h : OwnC w base t (.slice (some ⟨g, 0, none⟩) n c) l F) {i : Nat} (hi : i < l.length) :
  ∃ F' cs, Rep.rp w F' l[i] cs ∧ (∀ b, b ∈ F' → b ∈ F) ∧ CellsAt w g (i * Rep.wd α) cs := by
 obtain ⟨hn, F0, hs, h4⟩ := h.slr
 obtain ⟨xs, h1, h2, h3⟩ := h
 subst hn
 obtain ⟨F', cs, hr, hs', hx⟩ := h2.get i hi
 refine ⟨F', cs, hr, hs', fun j v hj => ?_⟩
 have hj' := hx j v hj
 have hl : i * Rep.wd α + j < xs.length := (List.getElem?_eq_some_iff.1 hj').1
 rw [h1.cellAt _ (by rw [← h2.len]; exact hl)]
 exact hj'
theorem OwnF.facts {w : World} {base : Nat} {t : TypeId} {g n c : Nat} {l : List α} (h : OwnF w base t (.slice (some ⟨g, 0, none⟩) n c) l) {i j : Nat} (hi : i < l.length) (hj : j < Rep.wd α) :
  (∃ u, w.cell? ⟨g, i * Rep.wd α + j, none⟩ = some u) ∧ w.frozen? ⟨g, i * Rep.wd α + j, none⟩ = false := let ⟨_, h1, _⟩ := h; h1.facts hi hj
theorem OwnA.facts {w : World} {base : Nat} {t : TypeId} {g n c : Nat} {l : List α} (h : OwnA w base t (.slice (some ⟨g, 0, none⟩) n c) l) {i j : Nat} (hi : i < l.length) (hj : j < Rep.wd α) :
  (∃ u, w.cell? ⟨g, i * Rep.wd α + j, none⟩ = some u) ∧ w.frozen? ⟨g, i * Rep.wd α + j, none⟩ = false := let ⟨_, h1, _⟩ := h; h1.facts hi hj
theorem OwnF.fact1 {w : World} {base : Nat} {t : TypeId} {g n c : Nat} {l : List α} (hk : Rep.wd α = 1) (h : OwnF w base t (.slice (some ⟨g, 0, none⟩) n c) l) {i : Nat} (hi : i < l.length) :
  (∃ v0, w.cell? ⟨g, i, none⟩ = some v0) ∧ w.frozen? ⟨g, i, none⟩ = false := by
 obtain ⟨⟨v0, g0⟩, f0⟩ := h.facts (j := 0) hi (by omega)
 rw [hk, Nat.mul_one, Nat.add_zero] at g0 f0
 exact ⟨⟨v0, g0⟩, f0⟩
theorem OwnA.fact1 {w : World} {base : Nat} {t : TypeId} {g n c : Nat} {l : List α} (hk : Rep.wd α = 1) (h : OwnA w base t (.slice (some ⟨g, 0, none⟩) n c) l) {i : Nat} (hi : i < l.length) :
  (∃ v0, w.cell? ⟨g, i, none⟩ = some v0) ∧ w.frozen? ⟨g, i, none⟩ = false := by
 obtain ⟨⟨v0, g0⟩, f0⟩ := h.facts (j := 0) hi (by omega)
 rw [hk, Nat.mul_one, Nat.add_zero] at g0 f0
 exact ⟨⟨v0, g0⟩, f0⟩
theorem OwnC.lt {w : World} {base : Nat} {t : TypeId} {g n c : Nat} {l : List α} {F : List Nat} (h : OwnC w base t (.slice (some ⟨g, 0, none⟩) n c) l F) : base ≤ g ∧ g < w.heap.size :=
 let ⟨_, h1, _⟩ := h; h1.lt g rfl
theorem OwnF.lt {w : World} {base : Nat} {t : TypeId} {g n c : Nat} {l : List α} (h : OwnF w base t (.slice (some ⟨g, 0, none⟩) n c) l) : base ≤ g ∧ g < w.heap.size := let ⟨_, h1, _⟩ := h; h1.lt
theorem nodup_three {A B C D : List Nat} (h : (A ++ (B ++ C)).Nodup) (hD : D.Nodup) (hd : ∀ b, b ∈ D → b ∉ A ++ (B ++ C)) : (A ++ (D ++ C)).Nodup := by
 simp only [List.nodup_append, List.mem_append] at h hd ⊢
 obtain ⟨h1, ⟨h2, h3, h4⟩, h5⟩ := h
 refine ⟨h1, ⟨hD, h3, fun a ha b hb e => hd a ha (.inr (.inr (e ▸ hb)))⟩, fun a ha b hb e => ?_⟩
 rcases hb with hb | hb
 ·exact hd b hb (.inl (e ▸ ha))
 ·exact h5 a ha b (.inr hb) e
theorem OwnF.stored {w0 w : World} {base : Nat} {t : TypeId} {g n c : Nat} {l : List α} (h : OwnF w0 base t (.slice (some ⟨g, 0, none⟩) n c) l) (hb : Below w0.heap.size w0 w) {i : Nat} (hi : i < l.length) {a : α} {cs : List Value}
  (hr : RF w0.heap.size w a cs) : OwnF (stores w g (i * Rep.wd α) cs) base t (.slice (some ⟨g, 0, none⟩) n c) (l.set i a) := by
 obtain ⟨F, h1, h2⟩ := h
 obtain ⟨F', h3, h4⟩ := hr
 have hg := h1.lt
 have h1' := h1.below (fun b hm => (h2.2 b hm).2.lt) hb
 have h2' := h2.below hb
 have hlt : ∀ b, b ∈ F → b < w0.heap.size := fun b hm => (h2.2 b hm).2.lt
 obtain ⟨F1, F2, F3, hF, h5⟩ := h1'.stored hi h3 (fun hm => by have := (h4.2 g hm).1; omega)
 refine ⟨_, h5, ?_, fun b hm => ?_⟩
 ·subst hF
  exact nodup_three h2.1 h4.1 (fun b hb hm => by have := hlt b hm; have := (h4.2 b hb).1; omega)
 ·have hbig : base ≤ b ∧ Plain w b := by
   simp only [List.mem_append] at hm
   rcases hm with hm | hm | hm
   ·exact h2'.2 b (by rw [hF]; simp -implicitDefEqProofs -dsimp [hm])
   ·exact ⟨by have := (h4.2 b hm).1; omega, (h4.2 b hm).2⟩
   ·exact h2'.2 b (by rw [hF]; simp -implicitDefEqProofs -dsimp [hm])
  exact ⟨hbig.1, stores_plain g cs w _ b hbig.2⟩
theorem OwnF.stored1 (hk : Rep.wd α = 1) {w0 w : World} {base : Nat} {t : TypeId} {g n c : Nat} {l : List α} (h : OwnF w0 base t (.slice (some ⟨g, 0, none⟩) n c) l) (hb : Below w0.heap.size w0 w) {i : Nat} (hi : i < l.length) {a : α} {u : Value}
  (hr : RF w0.heap.size w a [u]) : OwnF (w.setCell ⟨g, i, none⟩ u) base t (.slice (some ⟨g, 0, none⟩) n c) (l.set i a) := by
 have := h.stored hb hi hr
 rw [hk, Nat.mul_one] at this
 exact this
theorem OwnF.made1 (hk : Rep.wd α = 1) {z : Value} {a : α} (w : World) (t : TypeId) (n : Nat) (hz : ∀ w, Rep.rp w [] a z.cells.toList) (hn : n ≤ maxLen) :
  OwnF (w.alloc (.cells (madeCells z.cells n) t)) w.heap.size t (.slice (some ⟨w.heap.size, 0, none⟩) n n) (List.replicate n a) := by
 have := OwnF.made w t n hz hn (by rw [hk]; decide)
 rw [hk, Nat.mul_one] at this
 exact this
theorem OwnC.grown {w w' : World} {base : Nat} {t : TypeId} {v v' : Value} {l ys : List α} {F F' : List Nat} {xs news : List Value} (h2 : Elems w l F xs) (h3 : ∀ g, v.ownBlock = some g → g ∉ F)
  (hel : Elems w ys F' news) (hF : ∀ g, v.ownBlock = some g → g ∉ F') (hlt : ∀ b, b ∈ F ++ F' → b < w.heap.size)
  (ho : w'.ownsRow base t (Rep.wd α) v' (l.length + ys.length) (xs ++ news)) (hg : w.grownBy w' v.ownBlock) (hat : v'.ownBlock = v.ownBlock ∨ v'.ownBlock = some w.heap.size) : OwnC w' base t v' (l ++ ys) (F ++ F') := by
 have hne : ∀ g, v.ownBlock = some g → g ∉ F ++ F' := fun g hg => by simp only [List.mem_append, not_or]; exact ⟨h3 g hg, hF g hg⟩
 refine ⟨xs ++ news, by rw [List.length_append]; exact ho, (h2.append hel).keep fun b hb => hg.block b (hlt b hb) (fun e => hne b e.symm hb), fun g hgv => ?_⟩
 rcases hat with e | e
 ·exact hne g (e ▸ hgv)
 ·rw [e] at hgv
  injection hgv with hgv
  intro hm
  have := hlt g hm
  omega
end
end Go.Proofs.YtlfblkekbcfjpaaGreatDoor
