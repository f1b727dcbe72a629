/- The program's own types as plain data: steps, losses, outs. No program in sight. -/
import Derived.Test.YtblcmajhdndmfaaOwn
namespace Go.Proofs.Ytblcmajhdndmfaa
open Go.RowKit
set_option linter.unusedVariables false
set_option maxRecDepth 100000

structure GStep where
  at_ : Int
  name : Bool
  deriving DecidableEq, Inhabited

instance : Rep GStep where
  wd := 2
  rp := fun _ F s cs => F = [] ∧ cs = [.int .i64 s.at_, .bool s.name] ∧ I64 s.at_
  len := by rintro _ _ _ _ ⟨_, rfl, _⟩; rfl
  one := by rintro _ _ _ _ ⟨_, rfl, _⟩ u hu; simp at hu; rcases hu with rfl | rfl <;> rfl
  keep := fun h _ => h

structure GLoss where
  kind : Int
  p : List GStep
  deriving DecidableEq, Inhabited

instance : Rep GLoss where
  wd := 2
  rp := fun w F x cs => ∃ A c, cs = [.int .i64 x.kind, .slice A x.p.length c] ∧ I64 x.kind ∧ SlR w F x.p A c
  len := by rintro _ _ _ _ ⟨_, _, rfl, _⟩; rfl
  one := by rintro _ _ _ _ ⟨_, _, rfl, _⟩ u hu; simp at hu; rcases hu with rfl | rfl <;> rfl
  keep := by rintro _ _ _ _ _ ⟨A, c, rfl, hI, h⟩ hk; exact ⟨A, c, rfl, hI, h.keep hk⟩

structure GOut where
  b : List UInt8
  l : List GLoss
  code : Int
  deriving DecidableEq, Inhabited

instance : Rep GOut where
  wd := 3
  rp := fun w F x cs => ∃ A c A' c' F1 F2, F = F1 ++ F2 ∧ cs = [.slice A x.b.length c, .slice A' x.l.length c', .int .i64 x.code] ∧ I64 x.code ∧ SlR w F1 x.b A c ∧ SlR w F2 x.l A' c'
  len := by rintro _ _ _ _ ⟨_, _, _, _, _, _, _, rfl, _⟩; rfl
  one := by rintro _ _ _ _ ⟨_, _, _, _, _, _, _, rfl, _⟩ u hu; simp at hu; rcases hu with rfl | rfl | rfl <;> rfl
  keep := by
    rintro _ _ _ _ _ ⟨A, c, A', c', F1, F2, rfl, rfl, hI, h1, h2⟩ hk
    exact ⟨A, c, A', c', F1, F2, rfl, rfl, hI, h1.keep fun b hb => hk b (List.mem_append_left _ hb), h2.keep fun b hb => hk b (List.mem_append_right _ hb)⟩

theorem gstep_eq {x y : GStep} (h1 : x.at_ = y.at_) (h2 : x.name = y.name) : x = y := by cases x; cases y; subst h1 h2; rfl
theorem gloss_eq {x y : GLoss} (h1 : x.kind = y.kind) (h2 : x.p = y.p) : x = y := by cases x; cases y; subst h1 h2; rfl
theorem gout_eq {x y : GOut} (h1 : x.b = y.b) (h2 : x.l = y.l) (h3 : x.code = y.code) : x = y := by cases x; cases y; subst h1 h2 h3; rfl
theorem I64.zero : I64 0 := ⟨by omega, by omega⟩
theorem I64.of {n : Int} (h1 : -9223372036854775808 ≤ n) (h2 : n ≤ 9223372036854775807) : I64 n := ⟨h1, h2⟩

theorem SA.step_at {w : World} {l : List GStep} {A : Option Addr} {c : Nat} (h : SA w l A c) {i : Nat} (hi : i < l.length) :
    ∃ b off, A = some ⟨b, off, none⟩ ∧ b < w.heap.size ∧ I64 l[i].at_ ∧ w.cell? ⟨b, off + i * 2, none⟩ = some (.int .i64 l[i].at_) ∧ w.cell? ⟨b, off + i * 2 + 1, none⟩ = some (.bool l[i].name) := by
  obtain ⟨b, off, cs, rfl, hb, ⟨F, ⟨_, rfl, hI⟩, _⟩, hc⟩ := h.at hi
  exact ⟨b, off, rfl, hb, hI, hc.c0, hc.c1⟩
theorem SA.loss_at {w : World} {l : List GLoss} {A : Option Addr} {c : Nat} (h : SA w l A c) {i : Nat} (hi : i < l.length) :
    ∃ b off A' c', A = some ⟨b, off, none⟩ ∧ b < w.heap.size ∧ I64 l[i].kind ∧ SA w l[i].p A' c' ∧ w.cell? ⟨b, off + i * 2, none⟩ = some (.int .i64 l[i].kind) ∧ w.cell? ⟨b, off + i * 2 + 1, none⟩ = some (.slice A' l[i].p.length c') := by
  obtain ⟨b, off, cs, rfl, hb, ⟨F, ⟨A', c', rfl, hI, hs⟩, hF⟩, hc⟩ := h.at hi
  exact ⟨b, off, A', c', rfl, hb, hI, ⟨F, hs, hF⟩, hc.c0, hc.c1⟩
theorem SA.out_at {w : World} {l : List GOut} {A : Option Addr} {c : Nat} (h : SA w l A c) {i : Nat} (hi : i < l.length) :
    ∃ b off A1 c1 A2 c2, A = some ⟨b, off, none⟩ ∧ b < w.heap.size ∧ I64 l[i].code ∧ SA w l[i].b A1 c1 ∧ SA w l[i].l A2 c2 ∧
      w.cell? ⟨b, off + i * 3, none⟩ = some (.slice A1 l[i].b.length c1) ∧ w.cell? ⟨b, off + i * 3 + 1, none⟩ = some (.slice A2 l[i].l.length c2) ∧ w.cell? ⟨b, off + i * 3 + 1 + 1, none⟩ = some (.int .i64 l[i].code) := by
  obtain ⟨b, off, cs, rfl, hb, ⟨F, ⟨A1, c1, A2, c2, F1, F2, rfl, rfl, hI, h1, h2⟩, hF⟩, hc⟩ := h.at hi
  exact ⟨b, off, A1, c1, A2, c2, rfl, hb, hI, ⟨F1, h1, fun b hb => hF b (List.mem_append_left _ hb)⟩, ⟨F2, h2, fun b hb => hF b (List.mem_append_right _ hb)⟩, hc.c0, hc.c1, hc.c2⟩

theorem RA.outSA {w : World} {o : GOut} {cs : List Value} (h : RA w o cs) : ∃ A1 c1 A2 c2, cs = [.slice A1 o.b.length c1, .slice A2 o.l.length c2, .int .i64 o.code] ∧ SA w o.b A1 c1 ∧ SA w o.l A2 c2 ∧ I64 o.code := by
  obtain ⟨F, ⟨A, c, A', c', F1, F2, rfl, he, hI, h1, h2⟩, hF⟩ := h
  exact ⟨A, c, A', c', he, ⟨F1, h1, fun b hb => hF b (List.mem_append_left _ hb)⟩, ⟨F2, h2, fun b hb => hF b (List.mem_append_right _ hb)⟩, hI⟩
theorem RF.outSA {base : Nat} {w : World} {o : GOut} {A1 A2 : Option Addr} {c1 c2 n1 n2 : Nat} {k : Int} (h : RF base w o [.slice A1 n1 c1, .slice A2 n2 c2, .int .i64 k]) : SA w o.b A1 c1 ∧ SA w o.l A2 c2 ∧ I64 o.code := by
  obtain ⟨F, ⟨A, c, A', c', F1, F2, rfl, he, hI, h1, h2⟩, hF⟩ := h
  simp only [List.cons.injEq, Value.slice.injEq] at he
  obtain ⟨⟨rfl, _, rfl⟩, ⟨rfl, _, rfl⟩, _⟩ := he
  exact ⟨⟨F1, h1, fun b hb => (hF.2 b (List.mem_append_left _ hb)).2.lt⟩, ⟨F2, h2, fun b hb => (hF.2 b (List.mem_append_right _ hb)).2.lt⟩, hI⟩
theorem RF.step {base : Nat} {w : World} (s : GStep) (h : I64 s.at_) : RF base w s [.int .i64 s.at_, .bool s.name] := ⟨[], ⟨rfl, rfl, h⟩, Fresh.nil _ _⟩
/-- Two results, one made behind the other: no block is met twice. -/
theorem SF.pair {α β : Type} [Rep α] [Rep β] {base b1 : Nat} {w w' : World} {l : List α} {l' : List β} {A A' : Option Addr} {c c' : Nat} (h : SF b1 w l A c) (hb : Below w.heap.size w w') (h' : SF w.heap.size w' l' A' c') (hB : base ≤ b1) (hB' : base ≤ w.heap.size) :
    ∃ F1 F2, SlR w' F1 l A c ∧ SlR w' F2 l' A' c' ∧ Fresh base w' (F1 ++ F2) := by
  obtain ⟨F1, h1, h2⟩ := h
  obtain ⟨F2, h3, h4⟩ := h'
  refine ⟨F1, F2, h1.keep fun b hm => hb.block b (h2.2 b hm).2.lt, h3, ?_, fun b hm => ?_⟩
  · rw [List.nodup_append]
    refine ⟨h2.1, h4.1, fun a ha b hb' e => ?_⟩
    have := (h2.2 a ha).2.lt
    have := (h4.2 b hb').1
    omega
  · rcases List.mem_append.1 hm with hm | hm
    · exact ⟨Nat.le_trans hB (h2.2 b hm).1, ((h2.below hb).2 b hm).2⟩
    · exact ⟨Nat.le_trans hB' (h4.2 b hm).1, (h4.2 b hm).2⟩
theorem RF.out {base : Nat} {w : World} {o : GOut} {A A' : Option Addr} {c c' : Nat} (hI : I64 o.code) (h : ∃ F1 F2, SlR w F1 o.b A c ∧ SlR w F2 o.l A' c' ∧ Fresh base w (F1 ++ F2)) : RF base w o [.slice A o.b.length c, .slice A' o.l.length c', .int .i64 o.code] :=
  let ⟨F1, F2, h1, h2, h3⟩ := h; ⟨F1 ++ F2, ⟨A, c, A', c', F1, F2, rfl, rfl, hI, h1, h2⟩, h3⟩
theorem RF.byte {base : Nat} {w : World} (b : UInt8) : RF base w b [.int .u8 (b.toNat : Int)] := ⟨[], ⟨rfl, rfl⟩, Fresh.nil _ _⟩
theorem RF.int {base : Nat} {w : World} (n : Int) (h : I64 n) : RF base w n [.int .i64 n] := ⟨[], ⟨rfl, rfl, h⟩, Fresh.nil _ _⟩
theorem RF.loss {base : Nat} {w : World} {x : GLoss} {A : Option Addr} {c : Nat} (h : I64 x.kind) (hs : SF base w x.p A c) : RF base w x [.int .i64 x.kind, .slice A x.p.length c] :=
  let ⟨F, h1, h2⟩ := hs; ⟨F, ⟨A, c, rfl, h, h1⟩, h2⟩
theorem RA.loss {w : World} {x : GLoss} {A : Option Addr} {c : Nat} (h : I64 x.kind) (hs : SA w x.p A c) : RA w x [.int .i64 x.kind, .slice A x.p.length c] :=
  let ⟨F, h1, h2⟩ := hs; ⟨F, ⟨A, c, rfl, h, h1⟩, h2⟩

/- The bulk that the laws count. -/
def bulkLoss (x : GLoss) : Nat := x.p.length
def bulkLossS (l : List GLoss) : Nat := l.length + (l.map bulkLoss).sum
def bulkOut (o : GOut) : Nat := o.b.length + bulkLossS o.l
def bulkOutS (l : List GOut) : Nat := l.length + (l.map bulkOut).sum

/-- What is left of a budget. -/
def lft (left : Int) (k : Nat) : Int := if left - k < 0 then -1 else left - k
theorem lft_neg {left : Int} {k : Nat} (h : left < k) : lft left k = -1 := by unfold lft; rw [if_pos (by omega)]
theorem lft_pos {left : Int} {k : Nat} (h : (k : Int) ≤ left) : lft left k = left - k := by unfold lft; rw [if_neg (by omega)]

theorem lft_cases {left : Int} {k : Nat} (h0 : 0 ≤ left) : lft left k = -1 ∨ ∃ lf : Int, lft left k = lf ∧ 0 ≤ lf ∧ lf ≤ left ∧ (k : Int) ≤ left := by
  by_cases h : left < k
  · exact .inl (lft_neg h)
  · exact .inr ⟨left - k, lft_pos (by omega), by omega, by omega, by omega⟩
theorem lft_neg_of {left : Int} {a b : Nat} (h : lft left a = -1) : lft left (a + b) = -1 := by
  unfold lft at h ⊢; split at h <;> split <;> omega
theorem lft_of {left l0 : Int} {a b : Nat} (h : lft left a = l0) (h0 : 0 ≤ l0) : lft left (a + b) = lft l0 b := by
  unfold lft at h ⊢; split at h <;> split <;> split <;> omega
theorem lft_out {left : Int} {a b : Nat} (h : left < a) : lft left (a + b) = -1 := lft_neg (by omega)
theorem lft_step {left : Int} {a b : Nat} : lft (left - a) b = lft left (a + b) := by unfold lft; split <;> split <;> omega
theorem sum_drop {α : Type} (f : α → Nat) (l : List α) {k : Nat} (h : k < l.length) : ((l.drop k).map f).sum = f l[k] + ((l.drop (k + 1)).map f).sum := by
  rw [List.drop_eq_getElem_cons h, List.map_cons, List.sum_cons]

theorem le_sum_at {α : Type} (f : α → Nat) : ∀ (l : List α) {k : Nat} (h : k < l.length), f l[k] ≤ (l.map f).sum
  | [], _, h => absurd h (by simp)
  | a :: l, 0, _ => by simp
  | a :: l, k + 1, h => by have := le_sum_at f l (k := k) (by simpa using h); simp only [List.getElem_cons_succ, List.map_cons, List.sum_cons]; omega

theorem take_snoc_eq {α : Type} {xs ys : List α} {k : Nat} (hx : k < xs.length) (hy : k < ys.length) (h : xs.take k = ys.take k) (e : xs[k] = ys[k]) : xs.take (k + 1) = ys.take (k + 1) := by
  rw [List.take_succ_eq_append_getElem hx, List.take_succ_eq_append_getElem hy, h, e]
theorem take_all_eq {α : Type} {xs ys : List α} {k : Nat} (hk : k = xs.length) (hl : xs.length = ys.length) (h : xs.take k = ys.take k) : xs = ys := by
  rw [hk, List.take_length, hl, List.take_length] at h; exact h

theorem anyT_snoc {α : Type} {f : α → Bool} {l : List α} {k : Nat} (hk : k < l.length) (h : (l.take k).any f = false) (e : f l[k] = false) : (l.take (k + 1)).any f = false := by
  rw [List.take_succ_eq_append_getElem hk, List.any_append, h]; simp [e]
theorem anyT_hit {α : Type} {f : α → Bool} {l : List α} {k : Nat} (hk : k < l.length) (e : f l[k] = true) : l.any f = true := List.any_eq_true.2 ⟨_, List.getElem_mem hk, e⟩
theorem anyT_end {α : Type} {f : α → Bool} {l : List α} {k : Nat} (hk : k = l.length) (h : (l.take k).any f = false) : l.any f = false := by rw [hk, List.take_length] at h; exact h
/-- The place of the first element of which f holds; -1: there is none. -/
def idxOf {α : Type} (f : α → Bool) (l : List α) : Int := match l.findIdx? f with | some i => i | none => -1
theorem idxOf_hit {α : Type} {f : α → Bool} {l : List α} {k : Nat} (hk : k < l.length) (h : (l.take k).any f = false) (e : f l[k] = true) : idxOf f l = k := by
  have : l.findIdx? f = some k := by
    rw [List.findIdx?_eq_some_iff_getElem]
    refine ⟨hk, e, fun j hj => ?_⟩
    have hjl : j < (l.take k).length := by simp; omega
    have := List.any_eq_false.1 h _ (List.getElem_mem hjl)
    simpa using this
  simp [idxOf, this]
theorem idxOf_end {α : Type} {f : α → Bool} {l : List α} {k : Nat} (hk : k = l.length) (h : (l.take k).any f = false) : idxOf f l = -1 := by
  have : l.findIdx? f = none := by
    rw [List.findIdx?_eq_none_iff]
    rw [hk, List.take_length] at h
    intro x hx
    simpa using List.any_eq_false.1 h x hx
  simp [idxOf, this]
theorem idxOf_any {α : Type} (f : α → Bool) (l : List α) : decide (0 ≤ idxOf f l) = l.any f := by
  unfold idxOf
  cases h : l.findIdx? f with
  | none =>
    rw [List.findIdx?_eq_none_iff] at h
    have : l.any f = false := List.any_eq_false.2 fun x hx => by simp [h x hx]
    simp [this]
  | some i =>
    obtain ⟨hi, e, _⟩ := List.findIdx?_eq_some_iff_getElem.1 h
    simp [anyT_hit hi e]
theorem idxOf_range {α : Type} (f : α → Bool) (l : List α) : -1 ≤ idxOf f l ∧ idxOf f l ≤ l.length := by
  unfold idxOf
  cases h : l.findIdx? f with
  | none => exact ⟨by show (-1 : Int) ≤ -1; omega, by show (-1 : Int) ≤ _; omega⟩
  | some i =>
    obtain ⟨hi, e, _⟩ := List.findIdx?_eq_some_iff_getElem.1 h
    exact ⟨by show (-1 : Int) ≤ (i : Int); omega, by show (i : Int) ≤ _; omega⟩

/-- A row that is filled from its head. -/
def fillL {α : Type} (xs : List α) (z : α) (k : Nat) : List α := xs.take k ++ List.replicate (xs.length - k) z
theorem fillL_len {α : Type} (xs : List α) (z : α) {k : Nat} (h : k ≤ xs.length) : (fillL xs z k).length = xs.length := by simp [fillL]; omega
theorem fillL_zero {α : Type} (xs : List α) (z : α) : fillL xs z 0 = List.replicate xs.length z := by simp [fillL]
theorem fillL_all {α : Type} (xs : List α) (z : α) : fillL xs z xs.length = xs := by simp [fillL]
theorem fillL_set {α : Type} (xs : List α) (z : α) {k : Nat} (h : k < xs.length) : (fillL xs z k).set k xs[k] = fillL xs z (k + 1) := by
  unfold fillL
  rw [List.set_append_right _ _ (by simp; omega), List.length_take, Nat.min_eq_left (by omega), Nat.sub_self, List.take_succ_eq_append_getElem h]
  obtain ⟨m, hm⟩ : ∃ m, xs.length - k = m + 1 := ⟨xs.length - k - 1, by omega⟩
  rw [hm, List.replicate_succ, List.set_cons_zero, show xs.length - (k + 1) = m from by omega, List.append_assoc]
  rfl

/-- Ending shapes: a value and nothing old turned; a slice in new memory. -/
def Ret (w : World) (v : Value) (e : Ending) (w' : World) : Prop := e = .returned v ∧ Below w.heap.size w w'
def RetS {α : Type} [Rep α] (w : World) (l : List α) (e : Ending) (w' : World) : Prop := ∃ A c, e = .returned (.slice A l.length c) ∧ SF w.heap.size w' l A c ∧ Below w.heap.size w w'
def RetR {α : Type} [Rep α] (w : World) (a : α) (e : Ending) (w' : World) : Prop := ∃ cs : Array Value, e = .returned (.agg cs) ∧ RF w.heap.size w' a cs.toList ∧ Below w.heap.size w w'
end Go.Proofs.Ytblcmajhdndmfaa
