/- Part of a proof: contracts and plain laws. -/
import Derived.Test.YtlfblkekbcfjpaaGreatDoorZ11
import Derived.Laws.BytesArg
import Derived.Laws.Strings
set_option linter.unusedVariables false
set_option linter.unusedSimpArgs false
namespace Go.Proofs.YtlfblkekbcfjpaaGreatDoor
open Go.RowKit
set_option maxRecDepth 100000
structure GStep where
 at_ : Int
 name : Bool
 deriving DecidableEq, Inhabited
instance : Rep GStep where
 wd := 2
 rp := fun _ F s cs => F = [] ∧ cs = [.int .i64 s.at_, .bool s.name] ∧ I64 s.at_
 len := by rintro _ _ _ _ ⟨_, rfl, _⟩; rfl
 one := by rintro _ _ _ _ ⟨_, rfl, _⟩ u hu; simp at hu; rcases hu with rfl | rfl <;> rfl
 keep := fun h _ => h
structure GLoss where
 kind : Int
 p : List GStep
 deriving DecidableEq, Inhabited
instance : Rep GLoss where
 wd := 2
 rp := fun w F x cs => ∃ A c, cs = [.int .i64 x.kind, .slice A x.p.length c] ∧ I64 x.kind ∧ SlR w F x.p A c
 len := by rintro _ _ _ _ ⟨_, _, rfl, _⟩; rfl
 one := by rintro _ _ _ _ ⟨_, _, rfl, _⟩ u hu; simp at hu; rcases hu with rfl | rfl <;> rfl
 keep := by rintro _ _ _ _ _ ⟨A, c, rfl, hI, h⟩ hk; exact ⟨A, c, rfl, hI, h.keep hk⟩
structure GOut where
 b : List UInt8
 l : List GLoss
 code : Int
 deriving DecidableEq, Inhabited
instance : Rep GOut where
 wd := 3
 rp := fun w F x cs => ∃ A c A' c' F1 F2, F = F1 ++ F2 ∧ cs = [.slice A x.b.length c, .slice A' x.l.length c', .int .i64 x.code] ∧ I64 x.code ∧ SlR w F1 x.b A c ∧ SlR w F2 x.l A' c'
 len := by rintro _ _ _ _ ⟨_, _, _, _, _, _, _, rfl, _⟩; rfl
 one := by rintro _ _ _ _ ⟨_, _, _, _, _, _, _, rfl, _⟩ u hu; simp at hu; rcases hu with rfl | rfl | rfl <;> rfl
 keep := by
  rintro _ _ _ _ _ ⟨A, c, A', c', F1, F2, rfl, rfl, hI, h1, h2⟩ hk
  exact ⟨A, c, A', c', F1, F2, rfl, rfl, hI, h1.keep fun b hb => hk b (List.mem_append_left _ hb), h2.keep fun b hb => hk b (List.mem_append_right _ hb)⟩
theorem I64.zero : I64 0 := ⟨by omega, by omega⟩
theorem I64.of {n : Int} (h1 : -9223372036854775808 ≤ n) (h2 : n ≤ 9223372036854775807) : I64 n := ⟨h1, h2⟩
theorem RF.out {base : Nat} {w : World} {o : GOut} {A A' : Option Addr} {c c' : Nat} (hI : I64 o.code) (h : ∃ F1 F2, SlR w F1 o.b A c ∧ SlR w F2 o.l A' c' ∧ Fresh base w (F1 ++ F2)) : RF base w o [.slice A o.b.length c, .slice A' o.l.length c', .int .i64 o.code] :=
 let ⟨F1, F2, h1, h2, h3⟩ := h; ⟨F1 ++ F2, ⟨A, c, A', c', F1, F2, rfl, rfl, hI, h1, h2⟩, h3⟩
theorem RF.byte {base : Nat} {w : World} (b : UInt8) : RF base w b [.int .u8 (b.toNat : Int)] := ⟨[], ⟨rfl, rfl⟩, Fresh.nil _ _⟩
theorem RF.int {base : Nat} {w : World} (n : Int) (h : I64 n) : RF base w n [.int .i64 n] := ⟨[], ⟨rfl, rfl, h⟩, Fresh.nil _ _⟩
theorem le_sum_at {α : Type} (f : α → Nat) : ∀ (l : List α) {k : Nat} (h : k < l.length), f l[k] ≤ (l.map f).sum
 | [], _, h => absurd h (by simp -implicitDefEqProofs -dsimp)
 | a :: l, 0, _ => by simp -implicitDefEqProofs -dsimp
 | a :: l, k + 1, h => by have := le_sum_at f l (k := k) (by simpa using h); simp only [List.getElem_cons_succ, List.map_cons, List.sum_cons]; omega
theorem take_snoc_eq {α : Type} {xs ys : List α} {k : Nat} (hx : k < xs.length) (hy : k < ys.length) (h : xs.take k = ys.take k) (e : xs[k] = ys[k]) : xs.take (k + 1) = ys.take (k + 1) := by
 rw [List.take_succ_eq_append_getElem hx, List.take_succ_eq_append_getElem hy, h, e]
theorem take_all_eq {α : Type} {xs ys : List α} {k : Nat} (hk : k = xs.length) (hl : xs.length = ys.length) (h : xs.take k = ys.take k) : xs = ys := by
 rw [hk, List.take_length, hl, List.take_length] at h; exact h
def fillL {α : Type} (xs : List α) (z : α) (k : Nat) : List α := xs.take k ++ List.replicate (xs.length - k) z
theorem fillL_len {α : Type} (xs : List α) (z : α) {k : Nat} (h : k ≤ xs.length) : (fillL xs z k).length = xs.length := by simp -implicitDefEqProofs -dsimp [fillL]; omega
theorem fillL_zero {α : Type} (xs : List α) (z : α) : fillL xs z 0 = List.replicate xs.length z := by simp -implicitDefEqProofs -dsimp [fillL]
theorem fillL_all {α : Type} (xs : List α) (z : α) : fillL xs z xs.length = xs := by simp -implicitDefEqProofs -dsimp [fillL]
theorem fillL_set {α : Type} (xs : List α) (z : α) {k : Nat} (h : k < xs.length) : (fillL xs z k).set k xs[k] = fillL xs z (k + 1) := by
 unfold fillL
 rw [List.set_append_right _ _ (by simp -implicitDefEqProofs -dsimp; omega), List.length_take, Nat.min_eq_left (by omega), Nat.sub_self, List.take_succ_eq_append_getElem h]
 obtain ⟨m, hm⟩ : ∃ m, xs.length - k = m + 1 := ⟨xs.length - k - 1, by omega⟩
 rw [hm, List.replicate_succ, List.set_cons_zero, show xs.length - (k + 1) = m from by omega, List.append_assoc]
 rfl
def Ret (w : World) (v : Value) (e : Ending) (w' : World) : Prop := e = .returned v ∧ Below w.heap.size w w'
def RetS {α : Type} [Rep α] (w : World) (l : List α) (e : Ending) (w' : World) : Prop := ∃ A c, e = .returned (.slice A l.length c) ∧ SF w.heap.size w' l A c ∧ Below w.heap.size w w'
end Go.Proofs.YtlfblkekbcfjpaaGreatDoor
namespace Go.Proofs.YtlfblkekbcfjpaaGreatDoor
open Go.RowKit
set_option maxRecDepth 100000
structure GVal where
 kind : Int
 n : Int
 x : Int
 s : ByteArray
 l : List GVal
mutual
def GVal.same : GVal → GVal → Bool
 | ⟨k, n, x, s, l⟩, ⟨k', n', x', s', l'⟩ => decide (k = k') && decide (n = n') && decide (x = x') && decide (s = s') && GVal.sameL l l'
def GVal.sameL : List GVal → List GVal → Bool
 | [], [] => true
 | a :: l, b :: l' => GVal.same a b && GVal.sameL l l'
 | _, _ => false
end
mutual
theorem GVal.same_eq : ∀ (a b : GVal), GVal.same a b = true ↔ a = b
 | ⟨k, n, x, s, l⟩, ⟨k', n', x', s', l'⟩ => by
  simp only [GVal.same, Bool.and_eq_true, decide_eq_true_eq, GVal.sameL_eq l l', GVal.mk.injEq, and_assoc]
theorem GVal.sameL_eq : ∀ (a b : List GVal), GVal.sameL a b = true ↔ a = b
 | [], [] => by simp -implicitDefEqProofs -dsimp [GVal.sameL]
 | [], _ :: _ => by simp -implicitDefEqProofs -dsimp [GVal.sameL]
 | _ :: _, [] => by simp -implicitDefEqProofs -dsimp [GVal.sameL]
 | a :: l, b :: l' => by simp only [GVal.sameL, Bool.and_eq_true, GVal.same_eq a b, GVal.sameL_eq l l', List.cons.injEq]
end
instance : DecidableEq GVal := fun a b => if h : GVal.same a b = true then .isTrue ((GVal.same_eq a b).1 h) else .isFalse fun e => h ((GVal.same_eq a b).2 e)
theorem gval_eq {a b : GVal} (h1 : a.kind = b.kind) (h2 : a.n = b.n) (h3 : a.x = b.x) (h4 : a.s = b.s) (h5 : a.l = b.l) : a = b := by cases a; cases b; subst h1 h2 h3 h4 h5; rfl
def VInt (v : GVal) : Prop := True
mutual
def rpVal (w : World) : GVal → List Nat → List Value → Prop
 | ⟨k, n, x, s, l⟩, F, cs => ∃ A c, cs = [.int .i64 k, .int .i64 n, .int .i64 x, .string s, .slice A l.length c] ∧ True ∧ l.length ≤ c ∧ c ≤ maxLen ∧
   ((l = [] ∧ F = [] ∧ (A = none → c = 0)) ∨ ∃ b off F' xs, A = some ⟨b, off, none⟩ ∧ F = b :: F' ∧ rpVals w l F' xs ∧ CellsAt w b off xs)
def rpVals (w : World) : List GVal → List Nat → List Value → Prop
 | [], F, xs => F = [] ∧ xs = []
 | a :: l, F, xs => ∃ F1 F2 cs ys, F = F1 ++ F2 ∧ xs = cs ++ ys ∧ rpVal w a F1 cs ∧ rpVals w l F2 ys
end
mutual
theorem rpVal.keep {w w' : World} : ∀ (v : GVal) {F : List Nat} {cs : List Value}, rpVal w v F cs → (∀ b, b ∈ F → w'.heap[b]? = w.heap[b]?) → rpVal w' v F cs
 | ⟨k, n, x, s, l⟩, F, cs, h, hk => by
  simp only [rpVal] at h ⊢
  obtain ⟨A, c, h1, h2, h3, h4, h5⟩ := h
  refine ⟨A, c, h1, h2, h3, h4, ?_⟩
  rcases h5 with h5 | ⟨b, off, F', xs, hA, hF, he, hc⟩
  ·exact .inl h5
  ·subst hF
   exact .inr ⟨b, off, F', xs, hA, rfl, rpVals.keep l he fun b hb => hk b (List.mem_cons_of_mem _ hb), hc.keep (hk _ (List.mem_cons_self ..))⟩
theorem rpVals.keep {w w' : World} : ∀ (l : List GVal) {F : List Nat} {xs : List Value}, rpVals w l F xs → (∀ b, b ∈ F → w'.heap[b]? = w.heap[b]?) → rpVals w' l F xs
 | [], _, _, h, _ => by simp only [rpVals] at h ⊢; exact h
 | a :: l, F, xs, h, hk => by
  simp only [rpVals] at h ⊢
  obtain ⟨F1, F2, cs, ys, hF, hx, hr, he⟩ := h
  subst hF
  exact ⟨F1, F2, cs, ys, rfl, hx, rpVal.keep a hr fun b hb => hk b (List.mem_append_left _ hb), rpVals.keep l he fun b hb => hk b (List.mem_append_right _ hb)⟩
end
theorem rpVal.shape {w : World} {v : GVal} {F : List Nat} {cs : List Value} (h : rpVal w v F cs) : ∃ A c, cs = [.int .i64 v.kind, .int .i64 v.n, .int .i64 v.x, .string v.s, .slice A v.l.length c] := by
 cases v
 simp only [rpVal] at h
 obtain ⟨A, c, h1, _⟩ := h
 exact ⟨A, c, h1⟩
instance : Rep GVal where
 wd := 5
 rp := fun w F v cs => rpVal w v F cs
 len := fun h => by obtain ⟨A, c, rfl⟩ := h.shape; rfl
 one := fun h u hu => by obtain ⟨A, c, rfl⟩ := h.shape; simp at hu; rcases hu with rfl | rfl | rfl | rfl | rfl <;> rfl
 keep := fun h hk => rpVal.keep _ h hk
theorem rpVals_elems {w : World} : ∀ (l : List GVal) (F : List Nat) (xs : List Value), rpVals w l F xs ↔ Elems w l F xs
 | [], F, xs => by simp only [rpVals, Elems]
 | a :: l, F, xs => by
  simp only [rpVals, Elems]
  constructor
  ·rintro ⟨F1, F2, cs, ys, h1, h2, h3, h4⟩
   exact ⟨F1, F2, cs, ys, h1, h2, h3, (rpVals_elems l F2 ys).1 h4⟩
  ·rintro ⟨F1, F2, cs, ys, h1, h2, h3, h4⟩
   exact ⟨F1, F2, cs, ys, h1, h2, h3, (rpVals_elems l F2 ys).2 h4⟩
theorem rpVal_iff {w : World} {v : GVal} {F : List Nat} {cs : List Value} : Rep.rp w F v cs ↔ ∃ A c, cs = [.int .i64 v.kind, .int .i64 v.n, .int .i64 v.x, .string v.s, .slice A v.l.length c] ∧ VInt v ∧ SlR w F v.l A c := by
 show rpVal w v F cs ↔ _
 obtain ⟨k, n, x, s, l⟩ := v
 simp only [rpVal, rpVals_elems]
 constructor
 ·rintro ⟨A, c, h1, h2, h3, h4, h5⟩
  exact ⟨A, c, h1, h2, h3, h4, h5⟩
 ·rintro ⟨A, c, h1, h2, h3, h4, h5⟩
  exact ⟨A, c, h1, h2, h3, h4, h5⟩
theorem RA.valSA {w : World} {v : GVal} {cs : List Value} (h : RA w v cs) : ∃ A c, cs = [.int .i64 v.kind, .int .i64 v.n, .int .i64 v.x, .string v.s, .slice A v.l.length c] ∧ SA w v.l A c ∧ VInt v := by
 obtain ⟨F, hr, hF⟩ := h
 obtain ⟨A, c, h1, h2, h3⟩ := rpVal_iff.1 hr
 exact ⟨A, c, h1, ⟨F, h3, hF⟩, h2⟩
theorem RA.val {w : World} {v : GVal} {A : Option Addr} {c : Nat} (hI : VInt v) (h : SA w v.l A c) : RA w v [.int .i64 v.kind, .int .i64 v.n, .int .i64 v.x, .string v.s, .slice A v.l.length c] := by
 obtain ⟨F, h1, h2⟩ := h
 exact ⟨F, rpVal_iff.2 ⟨A, c, rfl, hI, h1⟩, h2⟩
theorem RF.val {base : Nat} {w : World} {v : GVal} {A : Option Addr} {c : Nat} (hI : VInt v) (h : SF base w v.l A c) : RF base w v [.int .i64 v.kind, .int .i64 v.n, .int .i64 v.x, .string v.s, .slice A v.l.length c] := by
 obtain ⟨F, h1, h2⟩ := h
 exact ⟨F, rpVal_iff.2 ⟨A, c, rfl, hI, h1⟩, h2⟩
theorem SA.val_at {w : World} {l : List GVal} {A : Option Addr} {c : Nat} (h : SA w l A c) {i : Nat} (hi : i < l.length) :
  ∃ b off A' c', A = some ⟨b, off, none⟩ ∧ b < w.heap.size ∧ VInt l[i] ∧ SA w l[i].l A' c' ∧ w.cell? ⟨b, off + i * 5, none⟩ = some (.int .i64 l[i].kind) ∧ w.cell? ⟨b, off + i * 5 + 1, none⟩ = some (.int .i64 l[i].n) ∧
   w.cell? ⟨b, off + i * 5 + 1 + 1, none⟩ = some (.int .i64 l[i].x) ∧ w.cell? ⟨b, off + i * 5 + 1 + 1 + 1, none⟩ = some (.string l[i].s) ∧ w.cell? ⟨b, off + i * 5 + 1 + 1 + 1 + 1, none⟩ = some (.slice A' l[i].l.length c') := by
 obtain ⟨b, off, cs, rfl, hb, hr, hc⟩ := h.at hi
 obtain ⟨A', c', rfl, hs, hI⟩ := hr.valSA
 exact ⟨b, off, A', c', rfl, hb, hI, hs, hc.c0, hc.c1, hc.c2, hc.c3, hc.c4⟩
mutual
def bulkVal : GVal → Nat
 | ⟨_, _, _, s, l⟩ => s.size + bulkVals l
def bulkVals : List GVal → Nat
 | [] => 0
 | a :: l => 1 + bulkVal a + bulkVals l
end
theorem bulkVal_eq (v : GVal) : bulkVal v = v.s.size + bulkVals v.l := by cases v; rw [bulkVal]
theorem bulkVals_eq (l : List GVal) : bulkVals l = l.length + (l.map bulkVal).sum := by
 induction l with
 | nil => simp -implicitDefEqProofs -dsimp [bulkVals]
 | cons a l ih => simp only [bulkVals, List.length_cons, List.map_cons, List.sum_cons, ih]; omega
theorem GVal.ind {p : GVal → Prop} (h : ∀ v : GVal, (∀ i (hi : i < v.l.length), p v.l[i]) → p v) (v : GVal) : p v := by
 have key : ∀ n (v : GVal), bulkVal v ≤ n → p v := by
  intro n
  induction n with
  | zero =>
   intro v hv
   refine h v fun i hi => ?_
   rw [bulkVal_eq, bulkVals_eq] at hv
   omega
  | succ n ih =>
   intro v hv
   refine h v fun i hi => ih _ ?_
   have := le_sum_at bulkVal v.l hi
   rw [bulkVal_eq, bulkVals_eq] at hv
   omega
 exact key _ v (Nat.le_refl _)
end Go.Proofs.YtlfblkekbcfjpaaGreatDoor
namespace Go.Proofs.YtlfblkekbcfjpaaGreatDoor
open Go.RowKit
set_option maxRecDepth 100000
def strOf (l : List UInt8) : ByteArray := ⟨l.toArray⟩
theorem strOf_size (l : List UInt8) : (strOf l).size = l.length := by simp -implicitDefEqProofs -dsimp [strOf, ByteArray.size]
theorem SA.bytes_cells {w : World} {l : List UInt8} {A : Option Addr} {c : Nat} (h : SA w l A c) : (A = none ∧ l = []) ∨ ∃ a, A = some a ∧ ∀ j v, (l.map fun b => Value.int .u8 (b.toNat : Int))[j]? = some v → w.cell? (a.add j) = some v := by
 have h' := h
 obtain ⟨F, ⟨h1, h2, h3⟩, hF⟩ := h
 rcases h3 with ⟨rfl, _⟩ | ⟨b, off, F', xs, rfl, rfl, he, hc⟩
 ·cases A with
  | none => exact .inl ⟨rfl, rfl⟩
  | some a => exact .inr ⟨a, rfl, fun j v hj => by simp at hj⟩
 ·refine .inr ⟨_, rfl, fun j v hj => ?_⟩
  have hjl : j < l.length := by
   have := (List.getElem?_eq_some_iff.1 hj).1
   simpa using this
  have hadd : (⟨b, off, none⟩ : Addr).add j = ⟨b, off + j, none⟩ := by
   unfold Addr.add; split
   ·rename_i h0; subst h0; rfl
   ·rfl
  obtain ⟨b', off', hA, _, hcell⟩ := h'.byte_at hjl
  injection hA with hA
  injection hA with e1 e2
  subst e1 e2
  rw [hadd, hcell]
  simp -implicitDefEqProofs -dsimp [List.getElem?_eq_getElem hjl] at hj
  rw [hj]
theorem run_str_of_bytes {P : Program} {src dst e : TypeId} (hs : P.underlying src = some (.slice e)) (he : P.underlying e = some (.int .u8)) (hd : P.underlying dst = some .string) {w : World} {l : List UInt8} {A : Option Addr} {c : Nat} (h : SA w l A c) :
  (convert src dst (.slice A l.length c)).run P w = .ok (.string (strOf l)) w := by
 rcases h.bytes_cells with ⟨rfl, rfl⟩ | ⟨a, rfl, hc⟩
 ·exact run_convert_bytes_nil w src e hs he _ _ dst hd
 ·have hl := run_loadCells_list (P := P) w a (l.map fun b => Value.int .u8 (b.toNat : Int)) hc
  have hl' : (loadCells a l.length).run P w = .ok ((l.map fun b => (b.toNat : Int)).map (Value.int .u8)).toArray w := by
   simpa [List.map_map, Function.comp_def] using hl
  rw [run_convert_bytes_string w src dst e _ _ c hs he hd, run_bytesToString w _ l.length c _ hl', foldl_push_bytes]
  simp -implicitDefEqProofs -dsimp [strOf, ByteArray.empty, ByteArray.emptyWithCapacity, List.map_map, Function.comp_def]
  rfl
theorem str_eq {a b : ByteArray} : (a.toList == b.toList) = decide (a = b) := by
 rw [ByteArray.toList_eq, ByteArray.toList_eq, Bool.eq_iff_iff]
 simp only [beq_iff_eq, decide_eq_true_eq]
 constructor
 ·intro h
  obtain ⟨⟨a⟩⟩ := a
  obtain ⟨⟨b⟩⟩ := b
  simp at h
  rw [h]
 ·rintro rfl; rfl
end Go.Proofs.YtlfblkekbcfjpaaGreatDoor
namespace Go.Proofs.YtlfblkekbcfjpaaGreatDoor
open Go.RowKit
set_option maxRecDepth 100000
def Kept (F : List Nat) (w w' : World) : Prop := w'.os = w.os ∧ w'.tape = w.tape ∧ w'.output = w.output ∧ w.heap.size ≤ w'.heap.size ∧ ∀ b, b < w.heap.size → b ∉ F → w'.heap[b]? = w.heap[b]?
theorem Kept.refl (F : List Nat) (w : World) : Kept F w w := ⟨rfl, rfl, rfl, Nat.le_refl _, fun _ _ _ => rfl⟩
theorem Kept.trans {F : List Nat} {a b c : World} (h : Kept F a b) (k : Kept F b c) : Kept F a c :=
 ⟨k.1.trans h.1, k.2.1.trans h.2.1, k.2.2.1.trans h.2.2.1, Nat.le_trans h.2.2.2.1 k.2.2.2.1, fun x hx hF => (k.2.2.2.2 x (Nat.lt_of_lt_of_le hx h.2.2.2.1) hF).trans (h.2.2.2.2 x hx hF)⟩
theorem Kept.mono {F F' : List Nat} {w w' : World} (h : Kept F w w') (hF : ∀ b, b ∈ F → b ∈ F') : Kept F' w w' := ⟨h.1, h.2.1, h.2.2.1, h.2.2.2.1, fun b hb hn => h.2.2.2.2 b hb fun hm => hn (hF b hm)⟩
theorem Kept.of_below {F : List Nat} {w w' : World} (h : Below w.heap.size w w') : Kept F w w' := ⟨h.os, h.tape, h.output, h.size, fun b hb _ => h.block b hb⟩
theorem Kept.below {F : List Nat} {w w' : World} {base : Nat} (h : Kept F w w') (hb : base ≤ w.heap.size) (hF : ∀ b, b ∈ F → base ≤ b) : Below base w w' :=
 ⟨h.1, h.2.1, h.2.2.1, h.2.2.2.1, fun b hlt => h.2.2.2.2 b (by omega) fun hm => by have := hF b hm; omega⟩
theorem Kept.set {F : List Nat} {w : World} {p : Addr} (hp : p.block ∈ F) (u : Value) : Kept F w (w.setCell p u) :=
 ⟨rfl, rfl, rfl, by simp -implicitDefEqProofs -dsimp [World.setCell], fun b _ hn => Below.heap_setCell w p u b (fun e => hn (e ▸ hp))⟩
section
variable {α : Type} [Rep α]
def MarkS (base g off : Nat) (done rest : List α) (F : List Nat) (w : World) : Prop :=
 ∃ F1 F2 x1 x2, F = F1 ++ F2 ∧ Elems w done F1 x1 ∧ Elems w rest F2 x2 ∧ CellsAt w g off (x1 ++ x2) ∧ Fresh base w (g :: F)
variable {base g off c : Nat} {done rest : List α} {F : List Nat} {w w' : World}
theorem MarkS.fresh (h : MarkS base g off done rest F w) : Fresh base w (g :: F) := let ⟨_, _, _, _, _, _, _, _, h⟩ := h; h
theorem MarkS.start {l : List α} (h : SlR w (g :: F) l (some ⟨g, off, none⟩) c) (hF : Fresh base w (g :: F)) : MarkS base g off [] l F w := by
 obtain ⟨_, _, h3⟩ := h
 rcases h3 with ⟨_, h4, _⟩ | ⟨b, o, F', xs, hA, hF', he, hc⟩
 ·cases h4
 ·injection hA with hA; injection hA with e1 e2
  subst e1 e2
  injection hF' with _ e3
  subst e3
  exact ⟨[], F, [], xs, rfl, ⟨rfl, rfl⟩, he, hc, hF⟩
theorem MarkS.finish (h : MarkS base g off done [] F w) (hl : done.length ≤ c) (hc : c ≤ maxLen) : SlR w (g :: F) done (some ⟨g, off, none⟩) c := by
 obtain ⟨F1, F2, x1, x2, rfl, h1, ⟨rfl, rfl⟩, h3, h4⟩ := h
 rw [List.append_nil] at h3 h4 ⊢
 exact ⟨hl, hc, .inr ⟨g, off, F1, x1, rfl, rfl, h1, h3⟩⟩
theorem MarkS.below (h : MarkS base g off done rest F w) (hb : Below w.heap.size w w') : MarkS base g off done rest F w' := by
 obtain ⟨F1, F2, x1, x2, rfl, h1, h2, h3, h4⟩ := h
 have hlt : ∀ b, b ∈ g :: (F1 ++ F2) → b < w.heap.size := fun b hm => (h4.2 b hm).2.lt
 exact ⟨F1, F2, x1, x2, rfl, h1.keep fun b hm => hb.block b (hlt b (by simp -implicitDefEqProofs -dsimp [hm])), h2.keep fun b hm => hb.block b (hlt b (by simp -implicitDefEqProofs -dsimp [hm])), h3.keep (hb.block g (hlt g (by simp -implicitDefEqProofs -dsimp))), h4.below hb⟩
theorem MarkS.head {a : α} (h : MarkS base g off done (a :: rest) F w) : ∃ Fa cs, Rep.rp w Fa a cs ∧ CellsAt w g (off + done.length * Rep.wd α) cs ∧ (∀ b, b ∈ Fa → b ∈ F) ∧ g ∉ Fa ∧ Fresh base w Fa ∧
  ∀ (w' : World) (a' : α) (cs' : List Value), Rep.rp w' Fa a' cs' → CellsAt w' g (off + done.length * Rep.wd α) cs' → (∀ j, (j < off + done.length * Rep.wd α ∨ off + done.length * Rep.wd α + Rep.wd α ≤ j) → w'.cell? ⟨g, j, none⟩ = w.cell? ⟨g, j, none⟩) →
   (∀ b, b < w.heap.size → b ≠ g → b ∉ Fa → w'.heap[b]? = w.heap[b]?) → (∀ b, b ∈ g :: Fa → Plain w' b) → MarkS base g off (done ++ [a']) rest F w' := by
 obtain ⟨F1, F2, x1, x2, rfl, h1, ⟨Fa, F3, cs, ys, rfl, rfl, hr, h2⟩, h3, h4⟩ := h
 have hnd := h4.1
 rw [List.nodup_cons] at hnd
 obtain ⟨hg, hnd⟩ := hnd
 have hx1 := h1.len
 have hcl : cs.length = Rep.wd α := Rep.len hr
 refine ⟨Fa, cs, hr, ?_, fun b hb => by simp -implicitDefEqProofs -dsimp [hb], fun hm => hg (by simp -implicitDefEqProofs -dsimp [hm]), ⟨?_, fun b hb => h4.2 b (by simp -implicitDefEqProofs -dsimp [hb])⟩, ?_⟩
 ·refine h3.sub fun j v hj => ?_
  have hjl : j < cs.length := (List.getElem?_eq_some_iff.1 hj).1
  rw [List.getElem?_append_right (by omega), List.getElem?_append_left (by omega), ← hj]
  congr 1; omega
 ·simp only [List.nodup_append] at hnd; exact hnd.2.1.1
 ·intro w' a' cs' hr' hc' hcell hblk hpl
  have hcl' : cs'.length = Rep.wd α := Rep.len hr'
  have hlt : ∀ b, b ∈ g :: (F1 ++ (Fa ++ F3)) → b < w.heap.size := fun b hm => (h4.2 b hm).2.lt
  simp only [List.nodup_append, List.mem_append] at hnd
  have hk1 : ∀ b, b ∈ F1 → w'.heap[b]? = w.heap[b]? := fun b hb => hblk b (hlt b (by simp -implicitDefEqProofs -dsimp [hb])) (fun e => hg (by simp -implicitDefEqProofs -dsimp [← e, hb])) (fun hm => hnd.2.2 b hb b (.inl hm) rfl)
  have hk3 : ∀ b, b ∈ F3 → w'.heap[b]? = w.heap[b]? := fun b hb => hblk b (hlt b (by simp -implicitDefEqProofs -dsimp [hb])) (fun e => hg (by simp -implicitDefEqProofs -dsimp [← e, hb])) (fun hm => hnd.2.1.2.2 b hm b hb rfl)
  refine ⟨F1 ++ Fa, F3, x1 ++ cs', ys, by simp, (h1.keep hk1).snoc hr', h2.keep hk3, fun j v hj => ?_, ⟨h4.1, fun b hb => ⟨(h4.2 b hb).1, ?_⟩⟩⟩
  ·by_cases hj1 : j < x1.length
   ·rw [List.append_assoc, List.getElem?_append_left hj1] at hj
    rw [hcell (off + j) (.inl (by omega))]
    exact h3 j v (by rw [List.getElem?_append_left hj1]; exact hj)
   ·by_cases hj2 : j < x1.length + cs'.length
    ·rw [List.append_assoc, List.getElem?_append_right (by omega), List.getElem?_append_left (by omega)] at hj
     have := hc' (j - x1.length) v hj
     rwa [show off + done.length * Rep.wd α + (j - x1.length) = off + j by omega] at this
    ·rw [List.append_assoc, List.getElem?_append_right (by omega), List.getElem?_append_right (by omega)] at hj
     rw [hcell (off + j) (.inr (by omega))]
     refine h3 j v ?_
     rw [List.getElem?_append_right (by omega), List.getElem?_append_right (by omega), ← hj]
     congr 1; omega
  ·by_cases hm : b ∈ g :: Fa
   ·exact hpl b hm
   ·simp only [List.mem_cons, not_or] at hm
    exact (h4.2 b hb).2.keep (hblk b (hlt b hb) hm.1 hm.2)
end
theorem Plain.frozen {w : World} {b : Nat} (h : Plain w b) (i : Nat) : w.frozen? ⟨b, i, none⟩ = false := by
 obtain ⟨cs, t, h⟩ := h
 exact Blk.frozen (t := t) (cs := cs) h i
theorem cell_set_ne (w : World) (g i j : Nat) (u : Value) (h : j ≠ i) : (w.setCell ⟨g, i, none⟩ u).cell? ⟨g, j, none⟩ = w.cell? ⟨g, j, none⟩ := by
 refine World.cell?_setCell_other (a := ⟨g, i, none⟩) (b := ⟨g, j, none⟩) (v := u) (w := w) ?_
 intro e
 injection e with _ e
 exact h e.symm
theorem cell_set_eq (w : World) (g i : Nat) (u v : Value) (h : w.cell? ⟨g, i, none⟩ = some v) : (w.setCell ⟨g, i, none⟩ u).cell? ⟨g, i, none⟩ = some u :=
 World.cell?_setCell_same (w := w) (a := ⟨g, i, none⟩) (v := u) (u := v) h
def byteOf (n : Int) : UInt8 := UInt8.ofNat (n % 256).toNat
theorem byteOf_val (n : Int) : ((byteOf n).toNat : Int) = n % 256 := by
 unfold byteOf
 rw [UInt8.toNat_ofNat_of_lt' (by simp -implicitDefEqProofs -dsimp [UInt8.size]; omega)]
 omega
def markB : Int → List UInt8 → List UInt8
 | _, [] => []
 | k, _ :: l => byteOf k :: markB (k + 1) l
theorem SlR.plain_block {α : Type} [Rep α] {w : World} {F : List Nat} {l : List α} {A : Option Addr} {c : Nat} (h : SlR w F l A c) (hl : 0 < l.length) : ∃ g off F', A = some ⟨g, off, none⟩ ∧ F = g :: F' := by
 rcases h.2.2 with ⟨rfl, _⟩ | ⟨b, off, F', xs, hA, hF, _⟩
 ·simp at hl
 ·exact ⟨b, off, F', hA, hF⟩
end Go.Proofs.YtlfblkekbcfjpaaGreatDoor
