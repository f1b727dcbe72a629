/- Part of a proof: contracts and plain laws. -/
import Derived.WalkKit
import Derived.Below
import Derived.OwnWalk
import Derived.Maps.AppendAt
import Derived.Lib.AppendStr
import Derived.Orders
import Derived.Shelf.Unicode.DecodeSlow
import Derived.Shelf.Unicode.CaseTo
import Derived.Lib.CaseU
import Derived.Lib.LaidTab
import Derived.Lib.ItoaNum
set_option linter.unusedVariables false
set_option linter.unusedSimpArgs false
namespace Go.Proofs.YtlfblkekbcfjpaaGreatDoor
open Go.RowKit
inductive V where
 | un | dead | nil
 | sc (v : Value)
 | sl (xs : List V)
 | ag (cs : List V)
 | tu (cs : List V)
 | pt (b o : Nat)
 | po (i j n k o : Nat)
 | pi (cs : List V)
 | own (i j : Nat)
 | fn (f : FuncId) (caps : List V)
 | row (d : Bool) (e : TypeId) (xs : List V)
 | blk (cs : List V)
 | gd (b w : Bool) (x : V)
 | pin (u : Value) (xs : List V)
instance : Inhabited V := ⟨.un⟩
structure Env where
 Φ : Nat → Nat → Option Value
 μ : Nat → Option Nat
 ρ : Nat → Nat → Option Value
 loc : Bool
def Env.dat (E : Env) : Env := { E with loc := false }
def CellsIn (Φ : Nat → Nat → Option Value) (b off : Nat) (vs : List Value) : Prop := ∀ j u, vs[j]? = some u → Φ b (off + j) = some u
mutual
def R : V → Env → List Nat → Value → Prop
 | .un, _, F, _ => F = []
 | .nil, _, F, v => F = [] ∧ v = .slice none 0 0
 | .sc u, _, F, v => F = [] ∧ v = u ∧ u.oneCell' = true
 | .sl xs, E, F, v => ∃ A c, v = .slice A xs.length c ∧ xs.length ≤ c ∧ c ≤ maxLen ∧ ((xs = [] ∧ F = [] ∧ (A = none → c = 0)) ∨
   ∃ b off F' vs k, A = some ⟨b, off, none⟩ ∧ F = b :: F' ∧ CellsIn E.Φ b off vs ∧ Els xs E.dat F' vs k)
 | .ag cs, E, F, v => ∃ vs, v = .agg vs ∧ Rs cs E F vs.toList
 | .tu cs, E, F, v => E.loc = true ∧ ∃ vs, v = .tuple vs ∧ Rt cs E F vs.toList
 | .pt b o, E, F, v => E.loc = true ∧ F = [] ∧ ∃ g, E.μ b = some g ∧ v = .pointer (some ⟨g, o, none⟩)
 | .po i j n k o, E, F, v => E.loc = true ∧ F = [] ∧ ∃ g c l, E.ρ i j = some (.slice (some ⟨g, 0, none⟩) l c) ∧ n < l ∧ o < k ∧ v = .pointer (some ⟨g, n * k + o, none⟩)
 | .pi cs, E, F, v => ∃ b off vs F', F = b :: F' ∧ v = .pointer (some ⟨b, off, none⟩) ∧ CellsIn E.Φ b off vs ∧ Rs cs E.dat F' vs
 | .own i j, E, F, v => E.loc = true ∧ F = [] ∧ E.ρ i j = some v ∧ v.oneCell' = true
 | .fn f cs, E, F, v => ∃ vs, v = .func (.func f) #[] vs ∧ Rs cs E F vs.toList
 | .dead, _, _, _ => False
 | .row .., _, _, _ => False
 | .blk .., _, _, _ => False
 | .gd b w x, E, F, v => (b = w → R x E F v) ∧ (b ≠ w → F = [] ∧ v = undef)
 | .pin u xs, E, F, v => v = u ∧ ∃ A c, v = .slice A xs.length c ∧ xs.length ≤ c ∧ c ≤ maxLen ∧ ((xs = [] ∧ F = [] ∧ (A = none → c = 0)) ∨
   ∃ b off F' vs k, A = some ⟨b, off, none⟩ ∧ F = b :: F' ∧ CellsIn E.Φ b off vs ∧ Els xs E.dat F' vs k)
def Rs : List V → Env → List Nat → List Value → Prop
 | [], _, F, vs => F = [] ∧ vs = []
 | x :: xs, E, F, vs => ∃ F1 F2 v ws, F = F1 ++ F2 ∧ vs = v :: ws ∧ R x E F1 v ∧ v.oneCell' = true ∧ Rs xs E F2 ws
def Rt : List V → Env → List Nat → List Value → Prop
 | [], _, F, vs => F = [] ∧ vs = []
 | x :: xs, E, F, vs => ∃ F1 F2 v ws, F = F1 ++ F2 ∧ vs = v :: ws ∧ R x E F1 v ∧ Rt xs E F2 ws
def Els : List V → Env → List Nat → List Value → Nat → Prop
 | [], _, F, vs, _ => F = [] ∧ vs = []
 | x :: xs, E, F, vs, k => ∃ F1 F2 v ws, F = F1 ++ F2 ∧ vs = v.cells.toList ++ ws ∧ R x E F1 v ∧ v.cells.size = k ∧ (∀ u ∈ v.cells, u.oneCell' = true) ∧ Els xs E F2 ws k
end
theorem R_pin {u : Value} {xs : List V} {E : Env} {F : List Nat} {v : Value} : R (.pin u xs) E F v ↔ v = u ∧ R (.sl xs) E F v := by unfold R; exact Iff.rfl
def Env.le (E E' : Env) : Prop := (∀ b o v, E.Φ b o = some v → E'.Φ b o = some v) ∧ (∀ b g, E.μ b = some g → E'.μ b = some g) ∧ (∀ i j v, E.ρ i j = some v → E'.ρ i j = some v) ∧ (E.loc = true → E'.loc = true)
theorem Env.le.dat {E E' : Env} (h : E.le E') : E.dat.le E'.dat := ⟨h.1, h.2.1, h.2.2.1, fun e => e⟩
theorem Env.le.rfl' (E : Env) : E.le E := ⟨fun _ _ _ h => h, fun _ _ h => h, fun _ _ _ h => h, fun h => h⟩
theorem CellsIn.mono {E E' : Env} {b o : Nat} {vs : List Value} (h : E.le E') (hc : CellsIn E.Φ b o vs) : CellsIn E'.Φ b o vs := fun j u hj => h.1 _ _ _ (hc j u hj)
mutual
theorem R.mono {E E' : Env} (h : E.le E') : ∀ (x : V) {F : List Nat} {v : Value}, R x E F v → R x E' F v
 | .un, _, _, hx => by unfold R at *; exact hx
 | .nil, _, _, hx => by unfold R at *; exact hx
 | .sc u, _, _, hx => by unfold R at *; exact hx
 | .sl xs, _, _, hx => by
  unfold R at *
  obtain ⟨A, c, h1, h2, h3, h4⟩ := hx
  refine ⟨A, c, h1, h2, h3, h4.imp_right ?_⟩
  rintro ⟨b, off, F', vs, k, h5, h6, h7, h8⟩
  exact ⟨b, off, F', vs, k, h5, h6, h7.mono h, Els.mono h.dat xs h8⟩
 | .ag cs, _, _, hx => by
  unfold R at *
  obtain ⟨vs, h1, h2⟩ := hx
  exact ⟨vs, h1, Rs.mono h cs h2⟩
 | .tu cs, _, _, hx => by
  unfold R at *
  obtain ⟨hl, vs, h1, h2⟩ := hx
  exact ⟨h.2.2.2 hl, vs, h1, Rt.mono h cs h2⟩
 | .pt b o, _, _, hx => by
  unfold R at *
  obtain ⟨hl, h1, g, h2, h3⟩ := hx
  exact ⟨h.2.2.2 hl, h1, g, h.2.1 _ _ h2, h3⟩
 | .po i j n k o, _, _, hx => by
  unfold R at *
  obtain ⟨hl, h1, g, c, l, h2, h3⟩ := hx
  exact ⟨h.2.2.2 hl, h1, g, c, l, h.2.2.1 _ _ _ h2, h3⟩
 | .pi cs, _, _, hx => by
  unfold R at *
  obtain ⟨b, off, vs, F', h0, h1, h2, h3⟩ := hx
  exact ⟨b, off, vs, F', h0, h1, h2.mono h, Rs.mono h.dat cs h3⟩
 | .own i j, _, _, hx => by
  unfold R at *
  obtain ⟨hl, h1, h2, h3⟩ := hx
  exact ⟨h.2.2.2 hl, h1, h.2.2.1 _ _ _ h2, h3⟩
 | .fn f cs, _, _, hx => by
  unfold R at *
  obtain ⟨vs, h1, h2⟩ := hx
  exact ⟨vs, h1, Rs.mono h cs h2⟩
 | .dead, _, _, hx => by unfold R at hx; exact hx.elim
 | .row .., _, _, hx => by unfold R at hx; exact hx.elim
 | .blk .., _, _, hx => by unfold R at hx; exact hx.elim
 | .gd b w x, _, _, hx => by unfold R at *; exact ⟨fun e => R.mono h x (hx.1 e), hx.2⟩
 | .pin u xs, _, _, hx => by
  unfold R at *
  obtain ⟨h0, A, c, h1, h2, h3, h4⟩ := hx
  refine ⟨h0, A, c, h1, h2, h3, h4.imp_right ?_⟩
  rintro ⟨b, off, F', vs, k, h5, h6, h7, h8⟩
  exact ⟨b, off, F', vs, k, h5, h6, h7.mono h, Els.mono h.dat xs h8⟩
theorem Rs.mono {E E' : Env} (h : E.le E') : ∀ (xs : List V) {F : List Nat} {vs : List Value}, Rs xs E F vs → Rs xs E' F vs
 | [], _, _, hx => by unfold Rs at *; exact hx
 | x :: xs, _, _, hx => by
  unfold Rs at *
  obtain ⟨F1, F2, v, ws, h1, h2, h3, h4, h5⟩ := hx
  exact ⟨F1, F2, v, ws, h1, h2, R.mono h x h3, h4, Rs.mono h xs h5⟩
theorem Rt.mono {E E' : Env} (h : E.le E') : ∀ (xs : List V) {F : List Nat} {vs : List Value}, Rt xs E F vs → Rt xs E' F vs
 | [], _, _, hx => by unfold Rt at *; exact hx
 | x :: xs, _, _, hx => by
  unfold Rt at *
  obtain ⟨F1, F2, v, ws, h1, h2, h3, h5⟩ := hx
  exact ⟨F1, F2, v, ws, h1, h2, R.mono h x h3, Rt.mono h xs h5⟩
theorem Els.mono {E E' : Env} (h : E.le E') : ∀ (xs : List V) {F : List Nat} {vs : List Value} {k : Nat}, Els xs E F vs k → Els xs E' F vs k
 | [], _, _, _, hx => by unfold Els at *; exact hx
 | x :: xs, _, _, _, hx => by
  unfold Els at *
  obtain ⟨F1, F2, v, ws, h1, h2, h3, h4, h5, h6⟩ := hx
  exact ⟨F1, F2, v, ws, h1, h2, R.mono h x h3, h4, h5, Els.mono h xs h6⟩
end
end Go.Proofs.YtlfblkekbcfjpaaGreatDoor
namespace Go.Proofs.YtlfblkekbcfjpaaGreatDoor
open Go.RowKit
inductive Comp where
 | t (i : Nat) | b (i : Nat) | r (i j : Nat)
 deriving DecidableEq
abbrev St := Comp → V
def upd {α : Type} (f : Comp → α) (c : Comp) (x : α) : Comp → α := fun c' => if c' = c then x else f c'
theorem upd_self {α : Type} (f : Comp → α) (c : Comp) (x : α) : upd f c x c = x := by simp -implicitDefEqProofs -dsimp [upd]
theorem upd_ne {α : Type} (f : Comp → α) {c c' : Comp} (x : α) (h : c' ≠ c) : upd f c x c' = f c' := by simp -implicitDefEqProofs -dsimp [upd, h]
structure Ctx where
 P : Program
 w0 : World
 Φ0 : Nat → Nat → Option Value
 X : List Nat
 μ0 : Nat → Option Nat
 np : Nat
structure Tb (P : Program) (w : World) : Prop where
 pow : Lib.TabIs P w "internal/strconv.uint64pow10" .u64 Lib.pow10Tab
 utf : ∀ g g', P.globalNamed "unicode/utf8.first" = some g → P.globalNamed "unicode/utf8.acceptRanges" = some g' → Lib.Utf8Tabs g g' w
 cas : ∀ g, P.globalNamed "unicode.CaseRanges" = some g → Lib.CaseVar g Lib.caseA w
 err : ∃ tp p, w.var? P "strconv.ErrSyntax" = some #[.iface tp p]
def Framed (w0 : World) (X : List Nat) (w : World) : Prop := w0.heap.size ≤ w.heap.size ∧ w.os = w0.os ∧ w.tape = w0.tape ∧ w.output = w0.output ∧ ∀ b, b < w0.heap.size → b ∉ X → w.heap[b]? = w0.heap[b]?
def TabC (C : Ctx) : Prop := ∀ w, Framed C.w0 C.X w → Tb C.P w
def PlB (w : World) (b : Nat) : Prop := ∃ cs t, w.heap[b]? = some (.cells cs t (0, 0))
def COk (P : Program) (E : Env) (w : World) : Comp → V → Option Nat → List Nat → Prop
 | .t _, _, g, F => g = none ∧ F = []
 | .b i, .un, g, F => g = none ∧ F = [] ∧ E.μ i = none
 | .b _, .dead, g, F => g = none ∧ F = []
 | .b i, .blk cs, g, _ => ∃ arr ty k, g = some k ∧ E.μ i = some k ∧ w.heap[k]? = some (.cells arr ty (0, 0)) ∧ ∃ F, Rs cs E F arr.toList
 | .r i j, .un, g, F => g = none ∧ F = [] ∧ E.ρ i j = none
 | .r _ _, .dead, g, F => g = none ∧ F = []
 | .r i j, .row d e xs, g, F => ∃ u vs k, E.ρ i j = some u ∧ (P.info? e).map (·.size) = some k ∧ 0 < k ∧ w.ownsRow 0 e k u xs.length vs ∧ Els xs E.dat F vs k ∧ g = u.ownBlock ∧ (d = true → ∀ b ∈ F, PlB w b)
 | .r i j, .sl xs, g, F => g = none ∧ ∃ u, E.ρ i j = some u ∧ ∃ F, R (.sl xs) E F u
 | _, _, _, _ => False
def deep : V → Bool
 | .row d _ _ => d
 | _ => false
def exc (x : V) (g : Option Nat) (F : List Nat) : List Nat := g.toList ++ (if deep x then F else [])
structure Sim (C : Ctx) (E : Env) (cb : Comp → Option Nat) (Fc : Comp → List Nat) (σ : St) (w : World) (a : Act) : Prop where
 phi0 : ∀ b o v, C.Φ0 b o = some v → E.Φ b o = some v
 frz : ∀ b o v, E.Φ b o = some v → w.cell? ⟨b, o, none⟩ = some v
 grow : ∀ b o v, E.Φ b o = some v → C.Φ0 b o = some v ∨ (C.w0.heap.size ≤ b ∨ b ∈ C.X)
 loc : E.loc = true
 tmp : ∀ i, ∃ F, R (σ (.t i)) E F (a.tmps.getD i undef)
 mem : ∀ c, COk C.P E w c (σ c) (cb c) (Fc c)
 out : ∀ c g, cb c = some g → ∀ o, E.Φ g o = none
 dis : ∀ c c', c ≠ c' → ∀ x, x ∈ exc (σ c) (cb c) (Fc c) → x ∉ exc (σ c') (cb c') (Fc c')
 nod : ∀ c, (exc (σ c) (cb c) (Fc c)).Nodup
 new : ∀ c x, x ∈ exc (σ c) (cb c) (Fc c) → (C.w0.heap.size ≤ x ∨ x ∈ C.X) ∧ x < w.heap.size
 os : w.os = C.w0.os
 tape : w.tape = C.w0.tape
 output : w.output = C.w0.output
 size : C.w0.heap.size ≤ w.heap.size
 old : ∀ b, b < C.w0.heap.size → b ∉ C.X → w.heap[b]? = C.w0.heap[b]?
 dfr : a.defers = []
 mu0 : ∀ i g, C.μ0 i = some g → i < C.np ∧ σ (.b i) ≠ .un ∧ E.μ i = some g
 tab : TabC C
def Held (C : Ctx) (σ : St) (w : World) (a : Act) : Prop := ∃ E cb Fc, Sim C E cb Fc σ w a
theorem mem_exc {x : V} {g : Option Nat} {F : List Nat} {k : Nat} (h : g = some k) : k ∈ exc x g F := by subst h; simp -implicitDefEqProofs -dsimp [exc]
theorem mem_exc_deep {x : V} {g : Option Nat} {F : List Nat} {k : Nat} (hd : deep x = true) (h : k ∈ F) : k ∈ exc x g F := by simp -implicitDefEqProofs -dsimp [exc, hd, h]
theorem ownsRow_keep {w w' : World} {base : Nat} {t : TypeId} {size n : Nat} {v : Value} {xs : List Value} (h : w.ownsRow base t size v n xs) (hk : ∀ g, v.ownBlock = some g → w'.heap[g]? = w.heap[g]?) : w'.ownsRow base t size v n xs := by
 refine ⟨h.1, h.2.imp_right ?_⟩
 rintro ⟨g, cap, cur, rfl, hb, hh, rest⟩
 exact ⟨g, cap, cur, rfl, hb, (hk g rfl).trans hh, rest⟩
theorem COk.keep {P : Program} {E E' : Env} {w w' : World} {c : Comp} {x : V} {g : Option Nat} {F : List Nat} (h : COk P E w c x g F) (hE : E.le E')
  (hub : ∀ i, c = .b i → E.μ i = none → E'.μ i = none) (hur : ∀ i j, c = .r i j → E.ρ i j = none → E'.ρ i j = none)
  (hk : ∀ b ∈ exc x g F, w'.heap[b]? = w.heap[b]?) : COk P E' w' c x g F := by
 cases c with
 | t i => exact h
 | b i =>
  cases x <;> simp only [COk] at h ⊢
  case un => exact ⟨h.1, h.2.1, hub i rfl h.2.2⟩
  case dead => exact h
  case blk cs =>
   obtain ⟨arr, ty, k, h1, h2, h3, F', h4⟩ := h
   exact ⟨arr, ty, k, h1, hE.2.1 _ _ h2, (hk k (mem_exc h1)).trans h3, F', Rs.mono hE _ h4⟩
 | r i j =>
  cases x <;> simp only [COk] at h ⊢
  case un => exact ⟨h.1, h.2.1, hur i j rfl h.2.2⟩
  case dead => exact h
  case row d e xs =>
   obtain ⟨u, vs, k, h1, h2, h3, h4, h5, h6, h7⟩ := h
   refine ⟨u, vs, k, hE.2.2.1 _ _ _ h1, h2, h3, ownsRow_keep h4 fun b hb => hk b (mem_exc (h6.trans hb)), Els.mono hE.dat _ h5, h6, fun hd b hb => ?_⟩
   obtain ⟨cs, t, h8⟩ := h7 hd b hb
   exact ⟨cs, t, (hk b (mem_exc_deep hd hb)).trans h8⟩
  case sl xs =>
   obtain ⟨h1, u, h2, F', h3⟩ := h
   exact ⟨h1, u, hE.2.2.1 _ _ _ h2, F', R.mono hE _ h3⟩
theorem Sim.gen {C : Ctx} {E E' : Env} {cb cb' : Comp → Option Nat} {Fc Fc' : Comp → List Nat} {σ σ' : St} {w w' : World} {a a' : Act} (h : Sim C E cb Fc σ w a) (T : List Comp)
  (same : ∀ c, c ∉ T → (∀ i, c ≠ .t i) → σ' c = σ c ∧ cb' c = cb c ∧ Fc' c = Fc c) (ht : ∀ i, cb' (.t i) = none ∧ Fc' (.t i) = [])
  (hE : E.le E') (hub : ∀ i, .b i ∉ T → E.μ i = none → E'.μ i = none) (hur : ∀ i j, .r i j ∉ T → E.ρ i j = none → E'.ρ i j = none)
  (hΦ : ∀ b o v, E'.Φ b o = some v → w'.cell? ⟨b, o, none⟩ = some v)
  (hgrow : ∀ b o v, E'.Φ b o = some v → E.Φ b o = some v ∨ (C.w0.heap.size ≤ b ∨ b ∈ C.X))
  (hheap : ∀ b, b < w.heap.size → (∀ c ∈ T, b ∉ exc (σ c) (cb c) (Fc c)) → w'.heap[b]? = w.heap[b]?)
  (hsz : w.heap.size ≤ w'.heap.size) (hos : w'.os = w.os) (htape : w'.tape = w.tape) (hout : w'.output = w.output)
  (htmp : ∀ i, ∃ F, R (σ' (.t i)) E' F (a'.tmps.getD i undef))
  (hmem : ∀ c ∈ T, COk C.P E' w' c (σ' c) (cb' c) (Fc' c))
  (hphi : ∀ c g, cb' c = some g → ∀ o, E'.Φ g o = none)
  (hex : ∀ c ∈ T, ∀ y ∈ exc (σ' c) (cb' c) (Fc' c), ((∃ c1 ∈ T, y ∈ exc (σ c1) (cb c1) (Fc c1)) ∨ w.heap.size ≤ y ∨ ((C.w0.heap.size ≤ y ∨ y ∈ C.X) ∧ ∀ c, y ∉ exc (σ c) (cb c) (Fc c))) ∧ y < w'.heap.size)
  (hdis : ∀ c ∈ T, ∀ c' ∈ T, c ≠ c' → ∀ x, x ∈ exc (σ' c) (cb' c) (Fc' c) → x ∉ exc (σ' c') (cb' c') (Fc' c'))
  (hnod : ∀ c ∈ T, (exc (σ' c) (cb' c) (Fc' c)).Nodup) (hd : a'.defers = []) (hbu : ∀ i, .b i ∈ T → σ' (.b i) ≠ .un) :
  Sim C E' cb' Fc' σ' w' a' := by
 have hexc : ∀ c, c ∉ T → exc (σ' c) (cb' c) (Fc' c) = exc (σ c) (cb c) (Fc c) ∨ exc (σ' c) (cb' c) (Fc' c) = [] := fun c hc => by
  by_cases hti : ∃ i, c = .t i
  ·obtain ⟨i, rfl⟩ := hti
   exact .inr (by simp -implicitDefEqProofs -dsimp [exc, ht i])
  ·obtain ⟨h1, h2, h3⟩ := same c hc fun i e => hti ⟨i, e⟩
   rw [h1, h2, h3]; exact .inl rfl
 have hcb : ∀ c1, c1 ∈ T → ∀ c, c ∉ T → ∀ y, y ∈ exc (σ c) (cb c) (Fc c) → y ∉ exc (σ c1) (cb c1) (Fc c1) := fun c1 h1 c hc y hy => h.dis c c1 (fun e => hc (e ▸ h1)) y hy
 have hmix : ∀ c, c ∉ T → ∀ c' ∈ T, ∀ y, y ∈ exc (σ' c) (cb' c) (Fc' c) → y ∉ exc (σ' c') (cb' c') (Fc' c') := fun c hc c' hc' y hy hy' => by
  rcases hexc c hc with e | e
  ·rw [e] at hy
   rcases (hex c' hc' y hy').1 with ⟨c1, hc1, h1⟩ | h1 | h1
   ·exact hcb c1 hc1 c hc y hy h1
   ·have := (h.new c y hy).2; omega
   ·exact h1.2 c hy
  ·rw [e] at hy; cases hy
 refine ⟨fun b o v e => hE.1 _ _ _ (h.phi0 b o v e), hΦ, fun b o v e => (hgrow b o v e).elim (h.grow b o v) .inr, hE.2.2.2 h.loc, htmp, fun c => ?_, hphi, fun c c' hne x hx hx' => ?_, fun c => ?_, fun c x hx => ?_, hos.trans h.os, htape.trans h.tape, hout.trans h.output, Nat.le_trans h.size hsz, fun b hb hX => ?_, hd, fun i g hi => ?_, h.tab⟩
 ·by_cases hc : c ∈ T
  ·exact hmem c hc
  ·cases c with
   | t i => simpa only [COk] using ht i
   | b i =>
    obtain ⟨h1, h2, h3⟩ := same (.b i) hc (by simp -implicitDefEqProofs -dsimp)
    rw [h1, h2, h3]
    refine (h.mem (.b i)).keep hE (fun i' e => ?_) (fun i' j' e => by cases e) fun b hb => hheap b (h.new _ b hb).2 fun c1 h1 => hcb c1 h1 _ hc b hb
    cases e; exact hub i hc
   | r i j =>
    obtain ⟨h1, h2, h3⟩ := same (.r i j) hc (by simp -implicitDefEqProofs -dsimp)
    rw [h1, h2, h3]
    refine (h.mem (.r i j)).keep hE (fun i' e => by cases e) (fun i' j' e => ?_) fun b hb => hheap b (h.new _ b hb).2 fun c1 h1 => hcb c1 h1 _ hc b hb
    cases e; exact hur i j hc
 ·by_cases hc : c ∈ T
  ·by_cases hc' : c' ∈ T
   ·exact hdis c hc c' hc' hne x hx hx'
   ·exact hmix c' hc' c hc x hx' hx
  ·by_cases hc' : c' ∈ T
   ·exact hmix c hc c' hc' x hx hx'
   ·rcases hexc c hc with e | e
    ·rcases hexc c' hc' with e' | e'
     ·rw [e] at hx; rw [e'] at hx'
      exact h.dis c c' hne x hx hx'
     ·rw [e'] at hx'; cases hx'
    ·rw [e] at hx; cases hx
 ·by_cases hc : c ∈ T
  ·exact hnod c hc
  ·rcases hexc c hc with e | e
   ·rw [e]; exact h.nod c
   ·rw [e]; exact List.nodup_nil
 ·by_cases hc : c ∈ T
  ·obtain ⟨h1, h2⟩ := hex c hc x hx
   refine ⟨?_, h2⟩
   rcases h1 with ⟨c1, _, h1⟩ | h1 | h1
   ·exact (h.new c1 x h1).1
   ·exact .inl (Nat.le_trans h.size h1)
   ·exact h1.1
  ·rcases hexc c hc with e | e
   ·rw [e] at hx
    exact ⟨(h.new c x hx).1, Nat.lt_of_lt_of_le (h.new c x hx).2 hsz⟩
   ·rw [e] at hx; cases hx
 ·refine (hheap b (Nat.lt_of_lt_of_le hb h.size) fun c hc e => ?_).trans (h.old b hb hX)
  rcases (h.new c b e).1 with h1 | h1
  ·omega
  ·exact hX h1
 ·obtain ⟨h1, h2, h3⟩ := h.mu0 i g hi
  refine ⟨h1, ?_, hE.2.1 _ _ h3⟩
  by_cases hc : .b i ∈ T
  ·exact hbu i hc
  ·rw [(same (.b i) hc (by simp -implicitDefEqProofs -dsimp)).1]; exact h2
theorem getD_set (l : Array Value) (d i : Nat) (v : Value) (hd : d < l.size) : (l.setIfInBounds d v).getD i undef = if i = d then v else l.getD i undef := by
 by_cases h : i = d
 ·subst h; simp -implicitDefEqProofs -dsimp [hd]
 ·simp only [if_neg h, Array.getD_eq_getD_getElem?]
  rw [Array.getElem?_setIfInBounds_ne (fun e => h e.symm)]
theorem Sim.put {C : Ctx} {E : Env} {cb : Comp → Option Nat} {Fc : Comp → List Nat} {σ : St} {w : World} {a : Act} (h : Sim C E cb Fc σ w a) {d : Nat} {x : V} {F : List Nat} {v : Value} (hd : d < a.tmps.size) (hx : R x E F v) :
  Sim C E cb Fc (upd σ (.t d) x) w (a.put (some d) v) := by
 refine h.gen [] (fun c _ hc => ⟨upd_ne _ _ (hc d), rfl, rfl⟩) (fun i => ?_) (Env.le.rfl' E) (fun _ _ h => h) (fun _ _ _ h => h) h.frz (fun _ _ _ h => .inl h) (fun _ _ _ => rfl) (Nat.le_refl _) rfl rfl rfl (fun i => ?_) (by simp -implicitDefEqProofs -dsimp) h.out (by simp -implicitDefEqProofs -dsimp) (by simp -implicitDefEqProofs -dsimp) (by simp -implicitDefEqProofs -dsimp) h.dfr (by simp -implicitDefEqProofs -dsimp)
 ·have := h.mem (.t i); simpa only [COk] using this
 ·simp only [Act.put]
  rw [getD_set _ _ _ _ hd]
  by_cases hi : i = d
  ·subst hi; rw [if_pos rfl, upd_self]; exact ⟨F, hx⟩
  ·rw [if_neg hi, upd_ne _ _ (by simp -implicitDefEqProofs -dsimp [hi])]; exact h.tmp i
end Go.Proofs.YtlfblkekbcfjpaaGreatDoor
namespace Go.Proofs.YtlfblkekbcfjpaaGreatDoor
open Go.RowKit
def V.cs : V → List V
 | .ag cs => cs
 | x => [x]
def V.ok : V → Bool
 | .ag _ | .sc _ | .nil | .sl _ | .pt .. | .po .. | .pi _ | .own .. | .fn .. | .pin .. => true
 | _ => false
def V.flat : V → Bool
 | .sc _ | .nil => true
 | _ => false
def flatE (x : V) : Bool := x.cs.all V.flat
inductive Kd where
 | int (k : IntKind) | str | slice | array (n : Nat) | struct | other
structure TD where
 kd : Kd
 sz : Nat
 by_ : Nat
 fs : List (Nat × Bool × Nat)
 el : Nat
 z : List V
 z1 : Bool
def cv : Value → V
 | .slice none 0 0 => .nil
 | .agg _ => .un
 | .tuple _ => .un
 | v => .sc v
def isAggD : TypeDesc → Bool
 | .struct _ | .array .. => true
 | _ => false
def tAgg (P : Program) (t : TypeId) : Bool := match P.underlying t with | some d => isAggD d | none => false
def fsz (P : Program) (t : TypeId) : Nat := match P.info? t, P.underlying t with | some i, some _ => i.size | _, _ => 0
def tyd (P : Program) (t : TypeId) : Option TD :=
 match P.underlying t, P.info? t with
 | some d, some i => some {
   kd := match d with | .int k => .int k | .string => .str | .slice _ => .slice | .array n _ => .array n | .struct _ => .struct | _ => .other
   sz := i.size, by_ := i.bytes
   fs := match d with | .struct fs => fs.toList.map fun f => (f.offset, tAgg P f.type, fsz P f.type) | _ => []
   el := match d with | .slice e | .array _ e | .pointer e => e | _ => 0
   z := match i.zero with | some v => v.cells.toList.map cv | none => []
   z1 := match i.zero with | some v => v.oneCell' | none => false }
 | _, _ => none
def sop (σ : St) : Operand → V
 | .tmp i => σ (.t i)
 | .const v => cv v
 | .func f => .fn f []
 | .global _ => .un
def wr (d : Option Nat) (x : V) : List (Comp × V) := match d with | some d => [(.t d, x)] | none => []
def okd (n : Nat) : Option Nat → Prop
 | some d => d < n
 | none => True
def isUn : V → Bool
 | .un => true
 | _ => false
def lv (σ : St) : V → Option (List V × List Comp)
 | .sl xs => some (xs, [])
 | .nil => some ([], [])
 | .own i j => match σ (.r i j) with
  | .row _ _ xs => some (xs, [.r i j])
  | .sl xs => some (xs, [.r i j])
  | _ => none
 | _ => none
def splc (cs : List V) (o : Nat) (xs : List V) : List V := cs.take o ++ xs ++ cs.drop (o + xs.length)
def partV (ag : Bool) (sz o : Nat) (cs : List V) : V := if ag then .ag ((cs.drop o).take sz) else cs.getD o .un
noncomputable def wrK (k : IntKind) (n : Int) : Int := Classical.choose (⟨k.wrap n, rfl⟩ : ∃ m, m = k.wrap n)
theorem wrK_eq (k : IntKind) (n : Int) : wrK k n = k.wrap n := Classical.choose_spec (⟨k.wrap n, rfl⟩ : ∃ m, m = k.wrap n)
noncomputable def bitsV (f : (n : Nat) → BitVec n → BitVec n → BitVec n) (k : IntKind) (a b : Int) : Int := wrK k (f k.bits (BitVec.ofInt k.bits a) (BitVec.ofInt k.bits b)).toNat
noncomputable def binI (op : BinOp) (k k' : IntKind) (a b : Int) (K : Prop → Value → Prop) : Prop :=
 match op with
 | .add => K (k = k') (.int k (wrK k (a + b)))
 | .sub => K (k = k') (.int k (wrK k (a - b)))
 | .mul => K (k = k') (.int k (wrK k (a * b)))
 | .quo => K (k = k' ∧ b ≠ 0) (.int k (wrK k (a.tdiv b)))
 | .rem => K (k = k' ∧ b ≠ 0) (.int k (a.tmod b))
 | .and => K (k = k') (.int k (bitsV (fun _ x y => x &&& y) k a b))
 | .or => K (k = k') (.int k (bitsV (fun _ x y => x ||| y) k a b))
 | .xor => K (k = k') (.int k (bitsV (fun _ x y => x ^^^ y) k a b))
 | .andNot => K (k = k') (.int k (bitsV (fun _ x y => x &&& ~~~y) k a b))
 | .shl => K (0 ≤ b) (.int k (wrK k (a * 2 ^ (min b.toNat k.bits))))
 | .shr => K (0 ≤ b) (.int k (a.fdiv (2 ^ (min b.toNat k.bits))))
 | .eql => K (k = k') (.bool (decide (a = b)))
 | .neq => K (k = k') (.bool (decide (a ≠ b)))
 | .lss => K (k = k') (.bool (decide (a < b)))
 | .leq => K (k = k') (.bool (decide (a ≤ b)))
 | .gtr => K (k = k') (.bool (decide (b < a)))
 | .geq => K (k = k') (.bool (decide (b ≤ a)))
def binS (op : BinOp) (a b : ByteArray) (K : Prop → Value → Prop) : Prop :=
 match op with
 | .add => K (a.size + b.size ≤ 9223372036854775807) (.string (a ++ b))
 | .eql => K True (.bool (decide (a = b)))
 | .neq => K True (.bool (decide (a ≠ b)))
 | .lss => K True (.bool (Op.bytesLess a.toList b.toList))
 | _ => False
noncomputable def binV (op : BinOp) (x y : V) (K : Prop → Value → Prop) : Prop :=
 match x, y with
 | .sc (.int k a), .sc (.int k' b) => binI op k k' a b K
 | .sc (.string a), .sc (.string b) => binS op a b K
 | _, _ => K False (.bool false)
noncomputable def unV (op : UnOp) (x : V) (K : Value → Prop) : Prop :=
 match op, x with
 | .neg, .sc (.int k n) => K (.int k (wrK k (0 - n)))
 | .not, .sc (.bool b) => K (.bool !b)
 | _, _ => False
def bld (fs : List (Nat × Bool × Nat)) (cs : List V) : List (Nat × V) → Option (List V)
 | [] => some cs
 | (i, x) :: ps => match fs[i]? with
  | some (o, _, s) => if x.ok && (x.cs.length == s && o + s ≤ cs.length) then bld fs (splc cs o x.cs) ps else none
  | none => none
def bldFs (P : Program) (T : TD) : Option (List (Nat × Bool × Nat)) :=
 match T.kd with
 | .struct => if T.fs.all (fun f => f.2.2 != 0) then some T.fs else none
 | .array m => (tyd P T.el).map fun Te => (List.range m).map fun i => (i * Te.sz, false, Te.sz)
 | _ => none
def dzc (σ : St) : V → Option (V × List Comp × Bool)
 | .own i j => match σ (.r i j) with
  | .row d _ xs => some (.sl xs, [.r i j], d)
  | .sl xs => some (.sl xs, [], false)
  | _ => none
 | .sc v => some (.sc v, [], true)
 | .nil => some (.nil, [], true)
 | .un => some (.un, [], true)
 | .sl xs => some (.sl xs, [], false)
 | .pi cs => some (.pi cs, [], false)
 | .pin u xs => some (.pin u xs, [], false)
 | _ => none
def dzs (σ : St) : List V → Option (List V × List Comp × Bool)
 | [] => some ([], [], true)
 | x :: xs => match dzc σ x, dzs σ xs with
  | some (y, m, d), some (ys, ms, e) => some (y :: ys, m ++ ms, d && e)
  | _, _ => none
def dz (σ : St) : V → Option (V × List Comp × Bool)
 | .ag cs => (dzs σ cs).map fun p => (.ag p.1, p.2)
 | x => dzc σ x
def dzl (σ : St) : List V → Option (List V × List Comp × Bool)
 | [] => some ([], [], true)
 | x :: xs => match dz σ x, dzl σ xs with
  | some (y, m, d), some (ys, ms, e) => some (y :: ys, m ++ ms, d && e)
  | _, _ => none
def refC : V → List Comp
 | .own i j => [.r i j]
 | _ => []
def refs : V → List Comp
 | .ag cs => cs.flatMap refC
 | x => refC x
def rowV : V → List V
 | .row _ _ xs => xs
 | .sl xs => xs
 | _ => []
def frozen (σ : St) (m : List Comp) : List (Comp × V) := m.map fun c => (c, .sl (rowV (σ c)))
def toBA (xs : List V) : ByteArray := ⟨(xs.map fun | .sc (.int _ n) => UInt8.ofNat n.toNat | _ => 0).toArray⟩
def isByte : V → Bool
 | .sc (.int .u8 n) => decide (0 ≤ n ∧ n < 256)
 | _ => false
def bv (b : UInt8) : V := .sc (.int .u8 (b.toNat : Int))
def cutV (n : Nat) (g : Prop) (lo hi : Option V) (K : Prop → Nat → Nat → Prop) : Prop :=
 match lo, hi with
 | none, none => K True 0 n
 | some (.sc (.int _ l)), none => K (0 ≤ l ∧ l ≤ n) l.toNat n
 | none, some (.sc (.int _ h)) => K (0 ≤ h ∧ h ≤ n) 0 h.toNat
 | some (.sc (.int _ l)), some (.sc (.int _ h)) => K (0 ≤ l ∧ l ≤ h ∧ h ≤ n) l.toNat h.toNat
 | _, _ => False
def slTy (P : Program) (t : TypeId) : Option (TypeId × TD) :=
 match tyd P t with
 | some T => match T.kd with
  | .slice => (tyd P T.el).map fun Te => (T.el, Te)
  | _ => none
 | none => none
def arTy (P : Program) (t : TypeId) : Option (Nat × TypeId × TD) :=
 match tyd P t with
 | some T => match T.kd with
  | .array m => (tyd P T.el).map fun Te => (m, T.el, Te)
  | _ => none
 | none => none
def isStr (P : Program) (t : TypeId) : Bool := match tyd P t with | some T => (match T.kd with | .str => true | _ => false) | none => false
def isU8 : Kd → Bool
 | .int .u8 => true
 | _ => false
def wpo (P : Program) (g : Prop) (op : Op) (d : Option Nat) (σ : St) (K : List (Comp × V) → List Comp → Prop) : Prop :=
 match op with
 | .move x | .assign x => K (wr d (sop σ x)) []
 | .alloc e => match tyd P e, d with
  | some T, some d => g ∧ isUn (σ (.b d)) = true ∧ T.z ≠ [] ∧ T.z.all V.ok = true ∧ K [(.b d, .blk T.z), (.t d, .pt d 0)] []
  | _, _ => False
 | .box e x => match d with
  | some d => g ∧ isUn (σ (.b d)) = true ∧ (sop σ x).ok = true ∧ K [(.b d, .blk (sop σ x).cs), (.t d, .pt d 0)] []
  | none => False
 | .build t ps => match tyd P t with
  | some T => match bldFs P T with
   | some fs => match bld fs T.z (ps.toList.map fun p => (p.1, sop σ p.2)) with
    | some cs => T.z ≠ [] ∧ T.z.all V.ok = true ∧ K (wr d (.ag cs)) []
    | none => False
   | none => False
  | none => False
 | .buildSlice t len ps => match slTy P t, d with
  | some (e, Te), some d => match dzl σ (ps.toList.map fun p => sop σ p.2) with
   | some (ys, m, dp) => g ∧ isUn (σ (.r d 0)) = true ∧ ps.toList.map Prod.fst = List.range len ∧ len * Te.sz ≤ 16777216 ∧ Te.z ≠ [] ∧ 0 < Te.sz ∧ (∀ x ∈ ys, x.ok = true ∧ x.cs.length = Te.sz) ∧ m.Nodup ∧
    K (frozen σ m ++ [(.r d 0, .row dp e ys), (.t d, .own d 0)]) (ps.toList.flatMap fun p => refs (sop σ p.2))
   | none => False
  | _, _ => False
 | .load t a => match tyd P t with
  | some T => match sop σ a with
   | .pt b o => match σ (.b b) with
    | .blk cs => (g → o + max 1 T.sz ≤ cs.length) ∧ K (wr d (partV (tAgg P t) T.sz o cs)) [.b b]
    | _ => False
   | .po i j m k o => match σ (.r i j) with
    | .row _ e xs => match tyd P e with
     | some Te => (g → Te.sz = k ∧ (xs.getD m .un).ok = true ∧ o + max 1 T.sz ≤ (xs.getD m .un).cs.length) ∧ K (wr d (partV (tAgg P t) T.sz o (xs.getD m .un).cs)) [.r i j]
     | none => False
    | _ => False
   | .pi cs => (g → max 1 T.sz ≤ cs.length) ∧ K (wr d (partV (tAgg P t) T.sz 0 cs)) []
   | _ => False
  | none => False
 | .store t a x => match tyd P t with
  | some T => match sop σ a with
   | .pt b o => match σ (.b b) with
    | .blk cs => g ∧ d = none ∧ (sop σ x).ok = true ∧ (sop σ x).cs.length = T.sz ∧ o + T.sz ≤ cs.length ∧ K [(.b b, .blk (splc cs o (sop σ x).cs))] [.b b]
    | _ => False
   | _ => False
  | none => False
 | .nilCheck x => match sop σ x with
  | .pt b o => K (wr d (.pt b o)) []
  | .pi cs => K (wr d (.pi cs)) []
  | .fn f cs => K (wr d (.fn f cs)) []
  | _ => False
 | .binOp op _ x y _ => binV op (sop σ x) (sop σ y) fun s v => (g → s) ∧ K (wr d (.sc v)) []
 | .unOp op _ x => unV op (sop σ x) fun v => K (wr d (.sc v)) []
 | .convert s t x => match tyd P s, tyd P t with
  | some S, some T => match T.kd with
   | .int k => match sop σ x with
    | .sc (.int _ n) => K (wr d (.sc (.int k (wrK k n)))) []
    | .un => (g → False) ∧ K (wr d (.sc (.int k 0))) []
    | _ => False
   | .str => match sop σ x with
    | .sc (.int _ n) => K (wr d (.sc (.string (Utf8.encode n)))) []
    | .sc (.string s) => K (wr d (.sc (.string s))) []
    | x => match slTy P s, lv σ x with
     | some (_, Te), some (xs, rd) => isU8 Te.kd = true ∧ (g → xs.all isByte = true) ∧ K (wr d (.sc (.string (toBA xs)))) rd
     | _, _ => False
   | .slice => match sop σ x, slTy P t with
    | .sc (.string s), some (_, Te) => match d with
     | some d => isU8 Te.kd = true ∧ g ∧ s.size ≤ 1099511627776 ∧ K [(.t d, .sl (s.toList.map bv))] []
     | none => False
    | _, _ => False
   | _ => False
  | _, _ => False
 | .makeFunc (.func f) fs cs => fs.toList = [] ∧ (∀ x ∈ cs.toList, (sop σ x).ok = true ∧ ∀ cs, sop σ x ≠ .ag cs) ∧ K (wr d (.fn f (cs.toList.map (sop σ)))) []
 | .slice t x lo hi none => match sop σ x with
  | .sc (.string s) => isStr P t = true ∧ cutV s.size g (lo.map (sop σ)) (hi.map (sop σ)) fun c l h => (g → c) ∧ K (wr d (.sc (.string (s.extract l h)))) []
  | .sl xs => match slTy P t with
   | some (_, Te) => (g → ∀ x ∈ xs, x.ok = true ∧ x.cs.length = Te.sz) ∧ cutV xs.length g (lo.map (sop σ)) (hi.map (sop σ)) fun c l h => (g → c) ∧ K (wr d (.sl ((xs.take h).drop l))) []
   | none => False
  | .own i j => match σ (.r i j), slTy P t with
   | .row _ _ xs, some (_, Te) => (∀ x ∈ xs, x.ok = true ∧ x.cs.length = Te.sz) ∧ cutV xs.length g (lo.map (sop σ)) (hi.map (sop σ)) fun c l h => g ∧ c ∧ K ((.r i j, .sl xs) :: wr d (.sl ((xs.take h).drop l))) [.r i j]
   | .sl xs, some (_, Te) => (g → ∀ x ∈ xs, x.ok = true ∧ x.cs.length = Te.sz) ∧ cutV xs.length g (lo.map (sop σ)) (hi.map (sop σ)) fun c l h => (g → c) ∧ K (wr d (.sl ((xs.take h).drop l))) [.r i j]
   | _, _ => False
  | _ => False
 | .slice t x none (some h) (some m) => match sop σ x, sop σ h, sop σ m, slTy P t with
  | .sl xs, .sc (.int _ a), .sc (.int _ b), some _ => a = xs.length ∧ b = xs.length ∧ K (wr d (.sl xs)) []
  | _, _, _, _ => False
 | .fieldAddr s x f => match tyd P s with
  | some T => match T.fs[f]? with
   | some (o, _, s) => s ≠ 0 ∧ (match sop σ x with
    | .pt b o' => K (wr d (.pt b (o' + o))) []
    | .po i j m k o' => (g → o' + o < k) ∧ K (wr d (.po i j m k (o' + o))) []
    | .pi cs => K (wr d (.pi (cs.drop o))) []
    | _ => False)
   | none => False
  | none => False
 | .field t x f => match tyd P t with
  | some T => match T.fs[f]?, sop σ x with
   | some (o, ag, s), .ag cs => s ≠ 0 ∧ (g → o + s ≤ cs.length) ∧ K (wr d (partV ag s o cs)) []
   | _, _ => False
  | none => False
 | .indexAddr t x i => match sop σ i with
  | .sc (.int _ n) => match sop σ x with
   | .sl xs => match slTy P t with
    | some (_, Te) => (g → 0 ≤ n ∧ n < xs.length ∧ (xs.getD n.toNat .un).ok = true ∧ (xs.getD n.toNat .un).cs.length = Te.sz) ∧ K (wr d (.pi (xs.getD n.toNat .un).cs)) []
    | none => False
   | .own a b => match σ (.r a b), slTy P t with
    | .row _ e xs, some (e', Te) => (g → 0 ≤ n ∧ n < xs.length ∧ e' = e ∧ 0 < Te.sz) ∧ K (wr d (.po a b n.toNat Te.sz 0)) [.r a b]
    | .sl xs, some (_, Te) => (g → 0 ≤ n ∧ n < xs.length ∧ (xs.getD n.toNat .un).ok = true ∧ (xs.getD n.toNat .un).cs.length = Te.sz) ∧ K (wr d (.pi (xs.getD n.toNat .un).cs)) [.r a b]
    | _, _ => False
   | .pt b o => match arTy P t with
    | some (m, _, Te) => (g → 0 ≤ n ∧ n < m) ∧ K (wr d (.pt b (o + n.toNat * Te.sz))) []
    | none => False
   | _ => False
  | .un => (g → False) ∧ K (wr d (.pi [])) []
  | _ => False
 | .index t x i => match sop σ i with
  | .sc (.int _ n) => match sop σ x with
   | .sc (.string s) => isStr P t = true ∧ (g → 0 ≤ n ∧ n < s.size) ∧ K (wr d (.sc (.int .u8 ((s.toList.getD n.toNat 0).toNat : Int)))) []
   | .ag cs => match arTy P t with
    | some (m, e, Te) => Te.sz ≠ 0 ∧ (g → 0 ≤ n ∧ n < m ∧ n.toNat * Te.sz + Te.sz ≤ cs.length) ∧ K (wr d (partV (tAgg P e) Te.sz (n.toNat * Te.sz) cs)) []
    | none => False
   | _ => False
  | _ => False
 | .extract x i => match sop σ x with
  | .tu cs => (g → i < cs.length) ∧ K (wr d (cs.getD i .un)) []
  | _ => False
 | _ => False
def V.st (b w : Bool) : V → V
 | .gd b' w' x => if b' = b ∧ w' = w then x else .gd b' w' x
 | x => x
def pickV (t : Bool) : V → V → V
 | .sc (.bool p), .sc (.bool q) => .sc (.bool (cond t p q))
 | x, y => if t then x else y
def entCs (i : Nat) : Nat → List V → List V
 | _, [] => []
 | j, .row .. :: cs => .own i j :: entCs i (j + 1) cs
 | j, x :: cs => x :: entCs i (j + 1) cs
def entT (i : Nat) : V → V
 | .row .. => .own i 0
 | .blk _ => .pt i 0
 | .ag cs => .ag (entCs i 0 cs)
 | x => x
def rowAt : V → V
 | .row d e xs => .row d e xs
 | _ => .un
def inSt (ys : List V) : St
 | .t i => entT i (ys.getD i .un)
 | .b i => match ys.getD i .un with | .blk cs => .blk (entCs i 0 cs) | _ => .un
 | .r i j => match ys.getD i .un with
  | .row d e xs => if j = 0 then .row d e xs else .un
  | .ag cs | .blk cs => rowAt (cs.getD j .un)
  | _ => .un
def CallR (P : Program) (f : FuncId) (vs : Array Value) (w : World) (Q : Ending → World → Prop) : Prop :=
 match (callFunc f vs).run P w with
 | .ok (.value v) w' => Q (.returned v) w'
 | .ok (.enter g us) w' => Calls P g us w' Q
 | _ => False
def resV (v : Value) : List Value → Prop
 | [u] => v = u
 | us => v = .tuple us.toArray
def Fn (P : Program) (f : FuncId) (ys outs rs : List V) : Prop :=
 ∀ C w vs, C.P = P → C.w0 = w → C.np = ys.length → (∀ i zs, ys.getD i .un = .blk zs → ∃ g, C.μ0 i = some g ∧ vs.getD i undef = .pointer (some ⟨g, 0, none⟩)) → Held C (inSt ys) w ⟨vs, []⟩ → vs.size = ys.length →
  CallR P f vs w fun
   | .returned v, w' => ∃ us, us.length = rs.length ∧ resV v us ∧ Held C (inSt (outs ++ rs)) w' ⟨vs ++ us.toArray, []⟩
   | .outgrown, _ => False
   | .panicked _, _ => False
mutual
def dat : V → Bool
 | .un | .sc _ | .nil | .sl _ | .pi _ | .pin .. => true
 | .ag cs => dats cs
 | .fn _ cs => dats cs
 | _ => false
def dats : List V → Bool
 | [] => true
 | c :: cs => dat c && dats cs
end
def wk : V → Bool
 | .un | .sc _ | .nil | .own .. => true
 | _ => false
def passC (P : Program) (σ : St) (x y : V) : Prop :=
 match y with
 | .row d e ys => match x with
  | .own i j => σ (.r i j) = .row d e ys
  | .nil => ys = [] ∧ (match tyd P e with | some T => 0 < T.sz | none => False)
  | _ => False
 | .sl ys => match x with
  | .own i j => match σ (.r i j) with
   | .row _ _ xs => xs = ys
   | .sl xs => xs = ys
   | _ => False
  | .nil => ys = []
  | .sl xs => xs = ys
  | .pin _ xs => xs = ys
  | _ => False
 | .un => wk x = true
 | y => dat x = true ∧ x = y
def passCs (P : Program) (σ : St) : List V → List V → Prop
 | [], [] => True
 | x :: xs, y :: ys => passC P σ x y ∧ passCs P σ xs ys
 | _, _ => False
def pass (P : Program) (σ : St) (x y : V) : Prop :=
 match y with
 | .blk ys => match x with
  | .pt b 0 => match σ (.b b) with
   | .blk xs => passCs P σ xs ys
   | _ => False
  | _ => False
 | .ag ys => match x with
  | .ag xs => passCs P σ xs ys
  | _ => False
 | y => passC P σ x y
def passL (P : Program) (σ : St) : List V → List V → Prop
 | [], [] => True
 | x :: xs, y :: ys => pass P σ x y ∧ passL P σ xs ys
 | _, _ => False
end Go.Proofs.YtlfblkekbcfjpaaGreatDoor
