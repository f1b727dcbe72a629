/- Part of a proof: contracts and plain laws. -/
import Derived.Test.YtlfblkekbcfjpaaGreatDoorZ03
set_option linter.unusedVariables false
set_option linter.unusedSimpArgs false
namespace Go.Proofs.YtlfblkekbcfjpaaGreatDoor
open Go.RowKit
theorem upds_other : ∀ (ws : List (Comp × V)) (σ : St) {c : Comp}, (∀ p ∈ ws, p.1 ≠ c) → upds σ ws c = σ c
 | [], _, _, _ => rfl
 | p :: ws, σ, c, h => by
  simp only [upds]
  rw [upds_other ws _ fun q hq => h q (List.mem_cons_of_mem _ hq), upd_ne _ _ (fun e => h p (List.mem_cons_self ..) e.symm)]
theorem upds_frozen (τ : St) : ∀ (m : List Comp) (σ : St) (c : Comp), upds σ (m.map fun c => (c, V.sl (rowV (τ c)))) c = if c ∈ m then .sl (rowV (τ c)) else σ c
 | [], _, _ => by simp -implicitDefEqProofs -dsimp [upds]
 | x :: m, σ, c => by
  simp only [List.map_cons, upds]
  rw [upds_frozen τ m]
  by_cases h1 : c ∈ m
  ·simp -implicitDefEqProofs -dsimp [h1]
  ·by_cases h2 : c = x
   ·subst h2; simp -implicitDefEqProofs -dsimp [h1, upd_self]
   ·simp -implicitDefEqProofs -dsimp [h1, h2, upd_ne _ _ h2]
theorem upds_append : ∀ (a b : List (Comp × V)) (σ : St), upds σ (a ++ b) = upds (upds σ a) b
 | [], _, _ => rfl
 | p :: a, b, σ => by simp only [List.cons_append, upds]; exact upds_append a b _
section
variable {C : Ctx} {E : Env} {cb : Comp → Option Nat} {Fc : Comp → List Nat} {σ : St} {w : World} {a : Act}
def Env.fz (E : Env) (w : World) (cb : Comp → Option Nat) (m : List Comp) : Env :=
 { E with Φ := fun b o => if m.any (fun c => decide (cb c = some b)) then w.cell? ⟨b, o, none⟩ else E.Φ b o }
theorem fz_le (h : Sim C E cb Fc σ w a) (m : List Comp) : E.le (E.fz w cb m) :=
 ⟨fun b o v e => by simp only [Env.fz]; split <;> first | exact h.frz b o v e | exact e, fun _ _ h => h, fun _ _ _ h => h, fun h => h⟩
theorem any_cb {m : List Comp} {cb : Comp → Option Nat} {b : Nat} : m.any (fun c => decide (cb c = some b)) = true ↔ ∃ c ∈ m, cb c = some b := by simp -implicitDefEqProofs -dsimp
theorem Sim.freezeL (h : Sim C E cb Fc σ w a) (m : List Comp) (hm : ∀ c ∈ m, ∃ i j, c = .r i j ∧ isRow (σ c) = true) :
  Sim C (E.fz w cb m) (fun c => if c ∈ m then none else cb c) (fun c => if c ∈ m then [] else Fc c) (upds σ (frozen σ m)) w a ∧
  ∀ i j d e xs, .r i j ∈ m → σ (.r i j) = .row d e xs → ∃ u F, E.ρ i j = some u ∧ R (.sl xs) (E.fz w cb m) F u ∧ (d = true → F.Nodup ∧ ∀ b ∈ F, b ∈ exc (σ (.r i j)) (cb (.r i j)) (Fc (.r i j)) ∧ PlB w b) := by
 have hE := fz_le h m
 have hR : ∀ i j d e xs, .r i j ∈ m → σ (.r i j) = .row d e xs → ∃ u F, E.ρ i j = some u ∧ R (.sl xs) (E.fz w cb m) F u ∧ (d = true → F.Nodup ∧ ∀ b ∈ F, b ∈ exc (σ (.r i j)) (cb (.r i j)) (Fc (.r i j)) ∧ PlB w b) := by
  intro i j d e xs hc hb
  obtain ⟨u, vs, k, A, c, h1, rfl, hinf, hk0, hown, hels, hcb, h2, h3, h4, hA, hpl⟩ := h.row hb
  cases A with
  | none =>
   have hcz := h4 rfl
   refine ⟨_, [], h1, ?_, fun _ => ⟨List.nodup_nil, by simp⟩⟩
   unfold R
   exact ⟨none, c, rfl, h2, h3, .inl ⟨List.length_eq_zero_iff.1 (by omega), rfl, fun _ => hcz⟩⟩
  | some x =>
   obtain ⟨gb, rfl, hcell⟩ := hA _ rfl
   have hnod := h.nod (.r i j)
   refine ⟨_, gb :: Fc (.r i j), h1, ?_, fun hd => ?_⟩
   ·unfold R
    refine ⟨_, c, rfl, h2, h3, .inr ⟨gb, 0, _, vs, k, rfl, rfl, fun q u hq => ?_, Els.mono hE.dat _ hels⟩⟩
    have : m.any (fun c => decide (cb c = some gb)) = true := any_cb.2 ⟨_, hc, hcb⟩
    simp only [Env.fz, this, if_true, Nat.zero_add]
    exact hcell q u hq
   ·subst hd
    rw [hb, hcb] at hnod ⊢
    simp only [exc, deep, Value.ownBlock, Option.toList_some, if_true, List.cons_append, List.nil_append] at hnod ⊢
    refine ⟨hnod, fun b hbm => ⟨hbm, ?_⟩⟩
    rcases List.mem_cons.1 hbm with rfl | hbm
    ·obtain ⟨_, h11⟩ := hown
     rcases h11 with ⟨h12, _⟩ | ⟨g, cap, cur, h12, _, hh, _⟩
     ·cases h12
     ·simp only [Value.slice.injEq, Option.some.injEq, Addr.mk.injEq] at h12
      obtain ⟨⟨rfl, _⟩, _⟩ := h12
      exact ⟨cur, e, hh⟩
    ·exact hpl rfl b hbm
 refine ⟨?_, hR⟩
 have hσ : ∀ c, upds σ (frozen σ m) c = if c ∈ m then .sl (rowV (σ c)) else σ c := fun c => upds_frozen σ m σ c
 have hσt : ∀ i, upds σ (frozen σ m) (.t i) = σ (.t i) := fun i => by
  rw [hσ, if_neg]
  intro hc
  obtain ⟨i', j', e, _⟩ := hm _ hc
  cases e
 refine h.gen m ?_ ?_ hE ?_ ?_ ?_ (fun b o v e => by
  simp only [Env.fz] at e
  split at e
  ·rename_i hany
   obtain ⟨c, _, h6⟩ := any_cb.1 hany
   exact .inr (h.new c b (mem_exc h6)).1
  ·exact .inl e) ?_ (Nat.le_refl _) rfl rfl rfl ?_ ?_ ?_ ?_ ?_ ?_ h.dfr (fun i hi => by obtain ⟨_, _, e, _⟩ := hm _ hi; cases e)
 ·intro c hc hct
  rw [hσ, if_neg hc, if_neg hc, if_neg hc]
  exact ⟨rfl, rfl, rfl⟩
 ·intro q
  have := h.cbt q
  constructor <;> split <;> simp -implicitDefEqProofs -dsimp [this]
 ·intro q _ hn; exact hn
 ·intro q r _ hn; exact hn
 ·intro b o v e
  simp only [Env.fz] at e
  split at e
  ·exact e
  ·exact h.frz b o v e
 ·intro _ _ _; rfl
 ·intro q
  rw [hσt]
  obtain ⟨F, h5⟩ := h.tmp q
  exact ⟨F, R.mono hE _ h5⟩
 ·intro c hc
  obtain ⟨i, j, rfl, hr⟩ := hm c hc
  rw [hσ, if_pos hc, if_pos hc, if_pos hc]
  cases hb : σ (.r i j) <;> rw [hb] at hr <;> simp -implicitDefEqProofs -dsimp [isRow] at hr
  rename_i d e xs
  obtain ⟨u, F, h1, h2, _⟩ := hR i j d e xs hc hb
  exact ⟨rfl, u, h1, F, h2⟩
 ·intro c gb hc o
  by_cases hcm : c ∈ m
  ·rw [if_pos hcm] at hc; cases hc
  ·rw [if_neg hcm] at hc
   simp only [Env.fz]
   split
   ·rename_i hany
    obtain ⟨c', hc', h6⟩ := any_cb.1 hany
    exact absurd (mem_exc h6) (h.dis c c' (fun e => hcm (e ▸ hc')) gb (mem_exc hc))
   ·exact h.out c gb hc o
 ·intro c hc y hy
  rw [hσ, if_pos hc, if_pos hc, if_pos hc] at hy
  simp -implicitDefEqProofs -dsimp [exc, deep] at hy
 ·intro c hc c' hc' _ x hx
  rw [hσ, if_pos hc, if_pos hc, if_pos hc] at hx
  simp -implicitDefEqProofs -dsimp [exc, deep] at hx
 ·intro c hc
  rw [hσ, if_pos hc, if_pos hc, if_pos hc]
  simp -implicitDefEqProofs -dsimp [exc, deep]
theorem Sim.newR (h : Sim C E cb Fc σ w a) {d : Nat} {dp : Bool} {e : TypeId} {k : Nat} {ys : List V} {F : List Nat} {arr : Array Value} (hun : σ (.r d 0) = .un) (hd : d < a.tmps.size) (hinf : (C.P.info? e).map (·.size) = some k) (hk : 0 < k)
  (hels : Els ys E.dat F arr.toList k) (hmax : ys.length ≤ maxLen)
  (hdp : dp = true → F.Nodup ∧ ∀ b ∈ F, (C.w0.heap.size ≤ b ∨ b ∈ C.X) ∧ b < w.heap.size ∧ PlB w b ∧ ∀ c, b ∉ exc (σ c) (cb c) (Fc c)) :
  Held C (upd (upd σ (.r d 0) (.row dp e ys)) (.t d) (.own d 0)) (w.alloc (.cells arr e)) (a.put (some d) (.slice (some ⟨w.heap.size, 0, none⟩) ys.length ys.length)) := by
 have hρ : E.ρ d 0 = none := by have := h.mem (.r d 0); rw [hun] at this; exact this.2.2
 let E' : Env := { E with ρ := fun i j => if i = d ∧ j = 0 then some (.slice (some ⟨w.heap.size, 0, none⟩) ys.length ys.length) else E.ρ i j }
 have hE : E.le E' := ⟨fun _ _ _ h => h, fun _ _ h => h, fun i j v hv => by
  simp only [E']; split
  ·rename_i hc; obtain ⟨rfl, rfl⟩ := hc; rw [hρ] at hv; cases hv
  ·exact hv, fun h => h⟩
 have hfrz : ∀ b o v, E.Φ b o = some v → b < w.heap.size := fun b o v e => World.block_lt_of_cell? w ⟨b, o, none⟩ (h.frz b o v e)
 have hold : ∀ b, b < w.heap.size → (w.alloc (.cells arr e)).heap[b]? = w.heap[b]? := fun b hb => by
  show (w.heap.push _)[b]? = _
  rw [Array.getElem?_push, if_neg (by omega)]
 have hsz : arr.size = ys.length * k := by have := hels.len; simpa using this
 refine ⟨E', upd cb (.r d 0) (some w.heap.size), upd Fc (.r d 0) F, h.gen [.r d 0] ?_ ?_ hE ?_ ?_ ?_ (fun _ _ _ h => .inl h) ?_ ?_ rfl rfl rfl ?_ ?_ ?_ ?_ ?_ ?_ h.dfr (fun i hi => by simp at hi)⟩
 ·intro c hc hct
  have hc' : c ≠ .r d 0 := fun e => hc (by simp -implicitDefEqProofs -dsimp [e])
  rw [upd_ne _ _ (hct d), upd_ne _ _ hc', upd_ne _ _ hc', upd_ne _ _ hc']
  exact ⟨rfl, rfl, rfl⟩
 ·intro i
  rw [upd_ne _ _ (by simp -implicitDefEqProofs -dsimp), upd_ne _ _ (by simp -implicitDefEqProofs -dsimp)]; exact h.cbt i
 ·intro i _ hn; exact hn
 ·intro i j hij hn
  have : ¬ (i = d ∧ j = 0) := fun ⟨e1, e2⟩ => hij (by simp -implicitDefEqProofs -dsimp [e1, e2])
  simp only [E', if_neg this]; exact hn
 ·intro b o v e'
  have := h.frz b o v e'
  rw [← this]
  simp only [World.cell?]
  rw [hold b (hfrz b o v e')]
 ·intro b hb _; exact hold b hb
 ·show w.heap.size ≤ (w.heap.push _).size
  simp -implicitDefEqProofs -dsimp
 ·exact tmp_upd h hE (fun i => upd_ne _ _ (by simp -implicitDefEqProofs -dsimp)) hd (F := []) (by unfold R; exact ⟨h.loc, rfl, by simp -implicitDefEqProofs -dsimp [E'], rfl⟩)
 ·intro c hc
  simp only [List.mem_singleton] at hc
  subst hc
  rw [upd_ne _ _ (by simp -implicitDefEqProofs -dsimp), upd_self, upd_self, upd_self]
  refine ⟨.slice (some ⟨w.heap.size, 0, none⟩) ys.length ys.length, arr.toList, k, by simp -implicitDefEqProofs -dsimp [E'], hinf, hk, ?_, Els.mono hE.dat _ hels, rfl, fun hd b hb => ?_⟩
  ·exact World.ownsRow_lit w arr ys.length (Nat.zero_le _) hmax hsz
  ·obtain ⟨_, h1⟩ := hdp hd
   obtain ⟨_, h2, ⟨cs, t, h3⟩, _⟩ := h1 b hb
   exact ⟨cs, t, (hold b h2).trans h3⟩
 ·intro c g hg o
  by_cases hc : c = .r d 0
  ·subst hc
   rw [upd_self] at hg
   obtain rfl := Option.some.inj hg
   show E.Φ w.heap.size o = none
   cases hv : E.Φ w.heap.size o with
   | none => rfl
   | some v => exact absurd (hfrz _ _ _ hv) (Nat.lt_irrefl _)
  ·rw [upd_ne _ _ hc] at hg; exact h.out c g hg o
 ·intro c hc y hy
  simp only [List.mem_singleton] at hc
  subst hc
  rw [upd_ne _ _ (by simp -implicitDefEqProofs -dsimp), upd_self, upd_self, upd_self] at hy
  simp only [exc, deep, Option.toList_some, List.cons_append, List.nil_append, List.mem_cons] at hy
  have hsz' : w.heap.size < (w.alloc (.cells arr e)).heap.size := by show w.heap.size < (w.heap.push _).size; simp -implicitDefEqProofs -dsimp
  rcases hy with rfl | hy
  ·exact ⟨.inr (.inl (Nat.le_refl _)), hsz'⟩
  ·cases hdd : dp <;> simp -implicitDefEqProofs -dsimp [hdd] at hy
   obtain ⟨_, h1⟩ := hdp hdd
   obtain ⟨h2, h3, _, h4⟩ := h1 y hy
   exact ⟨.inr (.inr ⟨h2, h4⟩), Nat.lt_trans h3 hsz'⟩
 ·intro c hc c' hc' hne
  simp only [List.mem_singleton] at hc hc'
  exact absurd (hc.trans hc'.symm) hne
 ·intro c hc
  simp only [List.mem_singleton] at hc
  subst hc
  rw [upd_ne _ _ (by simp -implicitDefEqProofs -dsimp), upd_self, upd_self, upd_self]
  simp only [exc, deep, Option.toList_some, List.cons_append, List.nil_append]
  cases hdd : dp
  ·simp -implicitDefEqProofs -dsimp
  ·obtain ⟨h1, h2⟩ := hdp hdd
   simp only [if_true]
   exact List.nodup_cons.2 ⟨fun hm => by have := (h2 _ hm).2.1; omega, h1⟩
end
end Go.Proofs.YtlfblkekbcfjpaaGreatDoor
namespace Go.Proofs.YtlfblkekbcfjpaaGreatDoor
open Go.RowKit
theorem upds_dead : ∀ (m : List Comp) (σ : St) (c : Comp), upds σ (m.map fun c => (c, V.dead)) c = if c ∈ m then .dead else σ c
 | [], _, _ => by simp -implicitDefEqProofs -dsimp [upds]
 | x :: m, σ, c => by
  simp only [List.map_cons, upds]
  rw [upds_dead m]
  by_cases h1 : c ∈ m
  ·simp -implicitDefEqProofs -dsimp [h1]
  ·by_cases h2 : c = x
   ·subst h2; simp -implicitDefEqProofs -dsimp [h1, upd_self]
   ·simp -implicitDefEqProofs -dsimp [h1, h2, upd_ne _ _ h2]
section
variable {C : Ctx} {E : Env} {cb : Comp → Option Nat} {Fc : Comp → List Nat} {σ : St} {w : World} {a : Act}
theorem Sim.app (h : Sim C E cb Fc σ w a) {d : Nat} {dx dy : Bool} {e : TypeId} {k : Nat} {xs ys : List V} {Fx Fy : List Nat} {vsx news : List Value} {u v' : Value} {w' : World} (s : List Comp)
  (hs : ∀ c ∈ s, ∃ i j, c = .r i j ∧ isRow (σ c) = true) (hinf : (C.P.info? e).map (·.size) = some k) (hk : 0 < k) (hown : w.ownsRow 0 e k u xs.length vsx) (hels : Els xs E.dat Fx vsx k)
  (hu : ∀ g, u.ownBlock = some g → ∃ c ∈ s, cb c = some g)
  (hFx : dx = true → Fx.Nodup ∧ ∀ b ∈ Fx, PlB w b ∧ u.ownBlock ≠ some b ∧ ∃ c ∈ s, b ∈ exc (σ c) (cb c) (Fc c))
  (hely : Els ys E.dat Fy news k)
  (hFy : dy = true → Fy.Nodup ∧ ∀ b ∈ Fy, PlB w b ∧ (C.w0.heap.size ≤ b ∨ b ∈ C.X) ∧ b < w.heap.size ∧ ∀ c, b ∉ exc (σ c) (cb c) (Fc c))
  (hown' : w'.ownsRow 0 e k v' (xs.length + ys.length) (vsx ++ news)) (hgr : w.grownBy w' u.ownBlock) (hb' : v'.ownBlock = u.ownBlock ∨ v'.ownBlock = some w.heap.size)
  (hlt' : ∀ g, v'.ownBlock = some g → g < w'.heap.size) (hun : σ (.r d 0) = .un) (hd : d < a.tmps.size) (h1' : v'.oneCell' = true) :
  Held C (upd (upd (upds σ (s.map fun c => (c, V.dead))) (.r d 0) (.row (dx && dy) e (xs ++ ys))) (.t d) (.own d 0)) w' (a.put (some d) v') := by
 have hρ : E.ρ d 0 = none := by have := h.mem (.r d 0); rw [hun] at this; exact this.2.2
 have hds : Comp.r d 0 ∉ s := fun hm => by
  obtain ⟨i, j, e', hr⟩ := hs _ hm
  rw [hun] at hr; cases hr
 let E' : Env := { E with ρ := fun i j => if i = d ∧ j = 0 then some v' else E.ρ i j }
 have hE : E.le E' := ⟨fun _ _ _ h => h, fun _ _ h => h, fun i j v hv => by
  simp only [E']; split
  ·rename_i hc; obtain ⟨rfl, rfl⟩ := hc; rw [hρ] at hv; cases hv
  ·exact hv, fun h => h⟩
 have hfrz : ∀ b o v, E.Φ b o = some v → b < w.heap.size := fun b o v e => World.block_lt_of_cell? w ⟨b, o, none⟩ (h.frz b o v e)
 have hun' : ∀ b o v, E.Φ b o = some v → u.ownBlock ≠ some b := fun b o v e hb => by
  obtain ⟨c, _, hc⟩ := hu b hb
  have := h.out c b hc o
  rw [e] at this; cases this
 have hσ1 : ∀ c, upds σ (s.map fun c => (c, V.dead)) c = if c ∈ s then .dead else σ c := fun c => upds_dead s σ c
 have hst : ∀ i, Comp.t i ∉ s := fun i hm => by obtain ⟨i', j', e', _⟩ := hs _ hm; cases e'
 let σ1 := upds σ (s.map fun c => (c, V.dead))
 let cb' : Comp → Option Nat := fun c => if c = .r d 0 then v'.ownBlock else if c ∈ s then none else cb c
 let Fc' : Comp → List Nat := fun c => if c = .r d 0 then Fx ++ Fy else if c ∈ s then [] else Fc c
 have hval : ∀ c, (∀ i, c ≠ .t i) → (upd (upd σ1 (.r d 0) (.row (dx && dy) e (xs ++ ys))) (.t d) (.own d 0)) c = if c = .r d 0 then .row (dx && dy) e (xs ++ ys) else if c ∈ s then .dead else σ c := fun c hc => by
  rw [upd_ne _ _ (hc d)]
  simp only [upd]
  by_cases h1 : c = .r d 0
  ·simp -implicitDefEqProofs -dsimp [h1]
  ·simp only [if_neg h1]; exact hσ1 c
 have hexs : ∀ c ∈ s, ∀ y, y ∉ exc ((upd (upd σ1 (.r d 0) (.row (dx && dy) e (xs ++ ys))) (.t d) (.own d 0)) c) (cb' c) (Fc' c) := fun c hc y hy => by
  obtain ⟨i, j, rfl, _⟩ := hs c hc
  have hne : Comp.r i j ≠ .r d 0 := fun e => hds (e ▸ hc)
  rw [hval _ (by simp -implicitDefEqProofs -dsimp), if_neg hne, if_pos hc] at hy
  simp -implicitDefEqProofs -dsimp [exc, deep, cb', Fc', hne, hc] at hy
 have hT : ∀ c ∈ s ++ [Comp.r d 0], c ∈ s ∨ c = .r d 0 := fun c hc => by simpa using hc
 refine ⟨E', cb', Fc', h.gen (s ++ [.r d 0]) ?_ ?_ hE ?_ ?_ ?_ (fun _ _ _ h => .inl h) ?_ hgr.size hgr.os hgr.tape hgr.output ?_ ?_ ?_ ?_ ?_ ?_ h.dfr (fun i hi => by
  rcases hT _ hi with hc | hc
  ·obtain ⟨_, _, e, _⟩ := hs _ hc; cases e
  ·cases hc)⟩
 ·intro c hc hct
  have h1 : c ∉ s := fun e => hc (List.mem_append_left _ e)
  have h2 : c ≠ .r d 0 := fun e => hc (by simp -implicitDefEqProofs -dsimp [e])
  rw [hval c hct, if_neg h2, if_neg h1]
  simp -implicitDefEqProofs -dsimp [cb', Fc', h1, h2]
 ·intro i
  have := h.cbt i
  simp -implicitDefEqProofs -dsimp [cb', Fc', hst i, this]
 ·intro i _ hn; exact hn
 ·intro i j hij hn
  have : ¬ (i = d ∧ j = 0) := fun ⟨e1, e2⟩ => hij (by simp -implicitDefEqProofs -dsimp [e1, e2])
  simp only [E', if_neg this]; exact hn
 ·intro b o v e'
  exact (hgr.cell (h.frz b o v e') (fun h' => hun' b o v e' h'.symm))
 ·intro b hb hne
  refine hgr.block b hb fun h' => ?_
  obtain ⟨c, hc, h2⟩ := hu b h'.symm
  exact hne c (List.mem_append_left _ hc) (mem_exc h2)
 ·refine tmp_upd h hE (fun i => ?_) hd (F := []) (by unfold R; exact ⟨h.loc, rfl, by simp -implicitDefEqProofs -dsimp [E'], h1'⟩)
  rw [upd_ne _ _ (by simp -implicitDefEqProofs -dsimp)]
  have := hσ1 (.t i)
  rw [if_neg (hst i)] at this; exact this
 ·intro c hc
  rcases hT c hc with hc | rfl
  ·obtain ⟨i, j, rfl, _⟩ := hs c hc
   have hne : Comp.r i j ≠ .r d 0 := fun e => hds (e ▸ hc)
   rw [hval _ (by simp -implicitDefEqProofs -dsimp), if_neg hne, if_pos hc]
   simp -implicitDefEqProofs -dsimp [COk, cb', Fc', hne, hc]
  ·rw [hval _ (by simp -implicitDefEqProofs -dsimp), if_pos rfl]
   simp only [cb', Fc', if_true, COk]
   refine ⟨v', vsx ++ news, k, by simp -implicitDefEqProofs -dsimp [E'], hinf, hk, by rw [List.length_append]; exact hown', ?_, rfl, fun hdd b hb => ?_⟩
   ·exact Els.mono hE.dat _ (hels.append hely)
   ·rw [Bool.and_eq_true] at hdd
    rcases List.mem_append.1 hb with hb | hb
    ·obtain ⟨⟨cs, t, h2⟩, h3, c, hc, h4⟩ := (hFx hdd.1).2 b hb
     exact ⟨cs, t, (hgr.block b (h.new c b h4).2 (fun e => h3 e.symm)).trans h2⟩
    ·obtain ⟨⟨cs, t, h2⟩, _, h3, h4⟩ := (hFy hdd.2).2 b hb
     exact ⟨cs, t, (hgr.block b h3 (fun e => by
      obtain ⟨c, _, h5⟩ := hu b e.symm
      exact h4 c (mem_exc h5))).trans h2⟩
 ·intro c g hg o
  show E.Φ g o = none
  simp only [cb'] at hg
  split at hg
  ·cases hv : E.Φ g o with
   | none => rfl
   | some v =>
    rcases hb' with hb' | hb'
    ·exact absurd (hb'.symm.trans hg) (hun' g o v hv)
    ·have := hfrz _ _ _ hv
     have := Option.some.inj (hb'.symm.trans hg)
     omega
  ·split at hg
   ·cases hg
   ·exact h.out c g hg o
 ·intro c hc y hy
  rcases hT c hc with hc | rfl
  ·exact absurd hy (hexs c hc y)
  ·rw [hval _ (by simp -implicitDefEqProofs -dsimp), if_pos rfl] at hy
   simp only [exc, deep, cb', Fc', if_true] at hy
   rcases List.mem_append.1 hy with hy | hy
   ·have hy : v'.ownBlock = some y := by simpa using hy
    refine ⟨?_, hlt' y hy⟩
    rcases hb' with hb' | hb'
    ·obtain ⟨c, hc, h2⟩ := hu y (hb'.symm.trans hy)
     exact .inl ⟨c, List.mem_append_left _ hc, mem_exc h2⟩
    ·exact .inr (.inl (by have := Option.some.inj (hb'.symm.trans hy); omega))
   ·cases hdd : (dx && dy) <;> rw [hdd] at hy <;> simp at hy
    rw [Bool.and_eq_true] at hdd
    rcases hy with hy | hy
    ·obtain ⟨_, _, c, hc, h4⟩ := (hFx hdd.1).2 y hy
     exact ⟨.inl ⟨c, List.mem_append_left _ hc, h4⟩, Nat.lt_of_lt_of_le (h.new c y h4).2 hgr.size⟩
    ·obtain ⟨_, h2, h3, h4⟩ := (hFy hdd.2).2 y hy
     exact ⟨.inr (.inr ⟨h2, h4⟩), Nat.lt_of_lt_of_le h3 hgr.size⟩
 ·intro c hc c' hc' hne x hx hx'
  rcases hT c hc with hc | rfl
  ·exact hexs c hc x hx
  ·rcases hT c' hc' with hc' | rfl
   ·exact hexs c' hc' x hx'
   ·exact hne rfl
 ·intro c hc
  rcases hT c hc with hc | rfl
  ·have : exc ((upd (upd σ1 (.r d 0) (.row (dx && dy) e (xs ++ ys))) (.t d) (.own d 0)) c) (cb' c) (Fc' c) = [] := List.eq_nil_iff_forall_not_mem.2 (hexs c hc)
   show (exc ((upd (upd σ1 (.r d 0) (.row (dx && dy) e (xs ++ ys))) (.t d) (.own d 0)) c) (cb' c) (Fc' c)).Nodup
   rw [this]; exact List.nodup_nil
  ·rw [hval _ (by simp -implicitDefEqProofs -dsimp), if_pos rfl]
   simp only [exc, deep, cb', Fc', if_true]
   cases hdd : (dx && dy)
   ·simp only [Bool.false_eq_true, if_false, List.append_nil]
    cases v'.ownBlock <;> simp -implicitDefEqProofs -dsimp
   ·rw [Bool.and_eq_true] at hdd
    have hX := hFx hdd.1
    have hY := hFy hdd.2
    simp only [if_true]
    have hXY : (Fx ++ Fy).Nodup := List.nodup_append.2 ⟨hX.1, hY.1, fun x hx y hy e => by
     subst e
     obtain ⟨_, _, c, _, h4⟩ := hX.2 x hx
     exact (hY.2 x hy).2.2.2 c h4⟩
    cases hv : v'.ownBlock with
    | none => simpa using hXY
    | some g =>
     simp only [Option.toList_some, List.cons_append, List.nil_append]
     refine List.nodup_cons.2 ⟨fun hm => ?_, hXY⟩
     rcases List.mem_append.1 hm with hm | hm
     ·obtain ⟨_, h3, c, _, h4⟩ := hX.2 g hm
      rcases hb' with hb' | hb'
      ·exact h3 (hb'.symm.trans hv)
      ·have := (h.new c g h4).2
       have := Option.some.inj (hb'.symm.trans hv)
       omega
     ·obtain ⟨_, _, h3, h4⟩ := hY.2 g hm
      rcases hb' with hb' | hb'
      ·obtain ⟨c, _, h5⟩ := hu g (hb'.symm.trans hv)
       exact h4 c (mem_exc h5)
      ·have := Option.some.inj (hb'.symm.trans hv)
       omega
end
end Go.Proofs.YtlfblkekbcfjpaaGreatDoor
namespace Go.Proofs.YtlfblkekbcfjpaaGreatDoor
open Go.RowKit
theorem append_str_block {P : Program} {w : World} (t u ty e : TypeId) (i : TypeInfo) (ht : P.underlying t = some (.slice e)) (hu : P.underlying u = some .string) (hi : P.info? e = some i) (hz : i.zero = some (.int .u8 0)) (hsize : i.size = 1) (hby : i.bytes = 1)
  (v : Value) (n : Nat) (xs : List Value) (hown : w.ownsRow 0 e 1 v n xs) (s : ByteArray) (hbytes : n + s.size ≤ 140737488355328) {v' : Value} {w' : World}
  (hrun : (Builtin.append_ #[t, u] ty #[v, .string s]).run P w = .ok v' w') : v'.ownBlock = v.ownBlock ∨ v'.ownBlock = some w.heap.size := by
 have hxl : xs.length = n := by simpa using hown.1
 obtain ⟨v1, w1, hr1, _, _, hiff⟩ := Lib.run_append_own_string (P := P) (w := w) 0 t u ty e i ht hu hi hz hsize hby v n xs hown s (by unfold maxLen; omega) hbytes (Nat.zero_le _)
 rw [hrun] at hr1
 obtain ⟨rfl, rfl⟩ : v' = v1 ∧ w' = w1 := by simpa using hr1
 rcases hown.2 with ⟨rfl, rfl⟩ | ⟨g, cap, cur, rfl, hbg, hg, hnc, hcm, hcs, htake⟩
 ·by_cases hm : s.size = 0
  ·rw [hiff.2 ⟨rfl, hm⟩]; exact .inl rfl
  ·have hr := run_append_nil_string (P := P) w t u ty e i (.int .u8 0) ht hu hi hz s (by omega) (by omega) (by rw [hby]; omega)
   rw [hrun] at hr
   rw [(Result.ok.inj hr).1]; exact .inr rfl
 ·by_cases hroom : n + s.size ≤ cap
  ·have hcs' : cur.size = cap := by simpa using hcs
   have hr := Lib.run_append_room_string (P := P) (w := w) t u ty e i ht hu hi hsize g n cap cur hg s hroom (by omega)
   rw [hrun] at hr
   rw [(Result.ok.inj hr).1]; exact .inl rfl
  ·have holds : ∀ j u, xs[j]? = some u → w.cell? ((⟨g, 0, none⟩ : Addr).add j) = some u := hown.cells (g := g) rfl
   have hr := Lib.run_append_grow_string (P := P) (w := w) t u ty e i (.int .u8 0) ht hu hi hz ⟨g, 0, none⟩ n cap xs (by rw [hsize]; simpa using hxl) holds s (by omega) (by omega) (by rw [hby]; exact growslice_fits (by omega) (by omega))
   rw [hrun] at hr
   rw [(Result.ok.inj hr).1]; exact .inr rfl
section
variable {C : Ctx} {E E' : Env} {cb : Comp → Option Nat} {Fc : Comp → List Nat} {σ : St} {w : World} {a : Act}
variable {P : Program} {g : Prop} {K : List (Comp × V) → List Comp → Prop} {next : Act → World → Prop} {Q : Exit → Act → World → Prop}
variable {dst : Option Tmp} {ty : TypeId} {pos : String} {after : Array Edge} {guard : Option (Nat × Bool)}
def Excl (σ : St) (cb : Comp → Option Nat) (Fc : Comp → List Nat) (w : World) (m : List Comp) (F : List Nat) : Prop := F.Nodup ∧ ∀ b ∈ F, PlB w b ∧ ∃ c ∈ m, b ∈ exc (σ c) (cb c) (Fc c)
theorem Excl.nil (σ : St) (cb : Comp → Option Nat) (Fc : Comp → List Nat) (w : World) (m : List Comp) : Excl σ cb Fc w m [] := ⟨List.nodup_nil, by simp⟩
theorem Excl.append (h : Sim C E cb Fc σ w a) {m n : List Comp} {F G : List Nat} (h1 : Excl σ cb Fc w m F) (h2 : Excl σ cb Fc w n G) (hnd : (m ++ n).Nodup) : Excl σ cb Fc w (m ++ n) (F ++ G) := by
 refine ⟨List.nodup_append.2 ⟨h1.1, h2.1, fun x hx y hy e => ?_⟩, fun b hb => ?_⟩
 ·subst e
  obtain ⟨_, c, hc, h3⟩ := h1.2 x hx
  obtain ⟨_, c', hc', h4⟩ := h2.2 x hy
  exact h.dis c c' (fun e => (List.nodup_append.1 hnd).2.2 c hc c' hc' e) x h3 h4
 ·rcases List.mem_append.1 hb with hb | hb
  ·obtain ⟨h3, c, hc, h4⟩ := h1.2 b hb; exact ⟨h3, c, List.mem_append_left _ hc, h4⟩
  ·obtain ⟨h3, c, hc, h4⟩ := h2.2 b hb; exact ⟨h3, c, List.mem_append_right _ hc, h4⟩
theorem R_sl_dat {xs : List V} {F : List Nat} {v : Value} (h : R (.sl xs) E F v) : R (.sl xs) E.dat F v := by unfold R at *; exact h
theorem dzc_row {x y : V} {m : List Comp} {dp : Bool} (hd : dzc σ x = some (y, m, dp)) : ∀ c ∈ m, ∃ i j, c = .r i j ∧ isRow (σ c) = true := by
 unfold dzc at hd
 split at hd
 ·rename_i i j
  split at hd
  ·rename_i d e xs hb
   simp only [Option.some.injEq, Prod.mk.injEq] at hd
   obtain ⟨_, rfl, _⟩ := hd
   intro c hc
   simp only [List.mem_singleton] at hc
   subst hc
   exact ⟨i, j, rfl, by rw [hb]; rfl⟩
  ·simp only [Option.some.injEq, Prod.mk.injEq] at hd
   obtain ⟨_, rfl, _⟩ := hd
   simp -implicitDefEqProofs -dsimp
  ·cases hd
 all_goals first | (cases hd; done) | (simp only [Option.some.injEq, Prod.mk.injEq] at hd; obtain ⟨_, rfl, _⟩ := hd; simp -implicitDefEqProofs -dsimp)
theorem dzc_ok (h : Sim C E cb Fc σ w a) {M : List Comp} (hE : E.le E') (hM : ∀ i j d e xs, .r i j ∈ M → σ (.r i j) = .row d e xs → ∃ u F, E.ρ i j = some u ∧ R (.sl xs) E' F u ∧ (d = true → F.Nodup ∧ ∀ b ∈ F, b ∈ exc (σ (.r i j)) (cb (.r i j)) (Fc (.r i j)) ∧ PlB w b))
  {x y : V} {m : List Comp} {dp : Bool} {F : List Nat} {v : Value} (hd : dzc σ x = some (y, m, dp)) (hm : ∀ c ∈ m, c ∈ M) (hx : R x E F v) : ∃ F', R y E'.dat F' v ∧ (dp = true → Excl σ cb Fc w m F') := by
 unfold dzc at hd
 split at hd
 ·rename_i i j
  unfold R at hx
  obtain ⟨_, _, hρ, _⟩ := hx
  split at hd
  ·rename_i d e xs hb
   simp only [Option.some.injEq, Prod.mk.injEq] at hd
   obtain ⟨rfl, rfl, rfl⟩ := hd
   obtain ⟨u, F', h1, h2, h3⟩ := hM i j d e xs (hm _ (by simp -implicitDefEqProofs -dsimp)) hb
   obtain rfl := Option.some.inj (hρ.symm.trans h1)
   refine ⟨F', R_sl_dat h2, fun hd => ⟨(h3 hd).1, fun b hb' => ?_⟩⟩
   have := (h3 hd).2 b hb'
   exact ⟨this.2, _, by simp, this.1⟩
  ·rename_i xs hb
   simp only [Option.some.injEq, Prod.mk.injEq] at hd
   obtain ⟨rfl, rfl, rfl⟩ := hd
   have h2 := h.mem (.r i j)
   rw [hb] at h2
   obtain ⟨_, u, h3, F', h4⟩ := h2
   obtain rfl := Option.some.inj (hρ.symm.trans h3)
   exact ⟨F', R_sl_dat (R.mono hE _ h4), fun e => by cases e⟩
  ·cases hd
 ·simp only [Option.some.injEq, Prod.mk.injEq] at hd
  obtain ⟨rfl, rfl, rfl⟩ := hd
  unfold R at hx
  obtain ⟨rfl, h1⟩ := hx
  exact ⟨[], by unfold R; exact ⟨rfl, h1⟩, fun _ => Excl.nil ..⟩
 ·simp only [Option.some.injEq, Prod.mk.injEq] at hd
  obtain ⟨rfl, rfl, rfl⟩ := hd
  unfold R at hx
  obtain ⟨rfl, h1⟩ := hx
  exact ⟨[], by unfold R; exact ⟨rfl, h1⟩, fun _ => Excl.nil ..⟩
 ·simp only [Option.some.injEq, Prod.mk.injEq] at hd
  obtain ⟨rfl, rfl, rfl⟩ := hd
  exact ⟨[], by unfold R; rfl, fun _ => Excl.nil ..⟩
 ·simp only [Option.some.injEq, Prod.mk.injEq] at hd
  obtain ⟨rfl, rfl, rfl⟩ := hd
  exact ⟨F, R_sl_dat (R.mono hE _ hx), fun e => by cases e⟩
 ·simp only [Option.some.injEq, Prod.mk.injEq] at hd
  obtain ⟨rfl, rfl, rfl⟩ := hd
  have := R.mono hE _ hx
  exact ⟨F, by unfold R at *; exact this, fun e => by cases e⟩
 ·simp only [Option.some.injEq, Prod.mk.injEq] at hd
  obtain ⟨rfl, rfl, rfl⟩ := hd
  rw [R_pin] at hx
  exact ⟨F, R_pin.2 ⟨hx.1, R_sl_dat (R.mono hE _ hx.2)⟩, fun e => by cases e⟩
 ·cases hd
end
end Go.Proofs.YtlfblkekbcfjpaaGreatDoor
namespace Go.Proofs.YtlfblkekbcfjpaaGreatDoor
open Go.RowKit
section
variable {C : Ctx} {E E' : Env} {cb : Comp → Option Nat} {Fc : Comp → List Nat} {σ : St} {w : World} {a : Act}
variable {P : Program} {g : Prop} {K : List (Comp × V) → List Comp → Prop} {next : Act → World → Prop} {Q : Exit → Act → World → Prop}
variable {dst : Option Tmp} {ty : TypeId} {pos : String} {after : Array Edge} {guard : Option (Nat × Bool)}
def FzOk (E E' : Env) (σ : St) (cb : Comp → Option Nat) (Fc : Comp → List Nat) (w : World) (M : List Comp) : Prop :=
 ∀ i j d e xs, .r i j ∈ M → σ (.r i j) = .row d e xs → ∃ u F, E.ρ i j = some u ∧ R (.sl xs) E' F u ∧ (d = true → F.Nodup ∧ ∀ b ∈ F, b ∈ exc (σ (.r i j)) (cb (.r i j)) (Fc (.r i j)) ∧ PlB w b)
theorem dzs_row : ∀ {xs ys : List V} {m : List Comp} {dp : Bool}, dzs σ xs = some (ys, m, dp) → ∀ c ∈ m, ∃ i j, c = .r i j ∧ isRow (σ c) = true
 | [], _, _, _, hd => by simp only [dzs, Option.some.injEq, Prod.mk.injEq] at hd; obtain ⟨_, rfl, _⟩ := hd; simp -implicitDefEqProofs -dsimp
 | x :: xs, _, _, _, hd => by
  simp only [dzs] at hd
  split at hd
  ·rename_i y m d ys ms e h1 h2
   simp only [Option.some.injEq, Prod.mk.injEq] at hd
   obtain ⟨_, rfl, _⟩ := hd
   intro c hc
   rcases List.mem_append.1 hc with hc | hc
   ·exact dzc_row h1 c hc
   ·exact dzs_row h2 c hc
  ·cases hd
theorem dzs_ok (h : Sim C E cb Fc σ w a) {M : List Comp} (hE : E.le E') (hM : FzOk E E' σ cb Fc w M) : ∀ {xs ys : List V} {m : List Comp} {dp : Bool} {F : List Nat} {vs : List Value}, dzs σ xs = some (ys, m, dp) → (∀ c ∈ m, c ∈ M) → m.Nodup → Rs xs E F vs →
  ∃ F', Rs ys E'.dat F' vs ∧ (dp = true → Excl σ cb Fc w m F')
 | [], _, _, _, _, _, hd, _, _, hx => by
  simp only [dzs, Option.some.injEq, Prod.mk.injEq] at hd
  obtain ⟨rfl, rfl, _⟩ := hd
  unfold Rs at hx
  obtain ⟨_, rfl⟩ := hx
  exact ⟨[], by unfold Rs; exact ⟨rfl, rfl⟩, fun _ => Excl.nil ..⟩
 | x :: xs, _, _, _, _, _, hd, hm, hnd, hx => by
  simp only [dzs] at hd
  split at hd
  ·rename_i y m d ys ms e h1 h2
   simp only [Option.some.injEq, Prod.mk.injEq] at hd
   obtain ⟨rfl, rfl, rfl⟩ := hd
   unfold Rs at hx
   obtain ⟨F1, F2, v, ws, _, rfl, h3, h4, h5⟩ := hx
   obtain ⟨G1, h6, h7⟩ := dzc_ok h hE hM h1 (fun c hc => hm c (List.mem_append_left _ hc)) h3
   obtain ⟨G2, h8, h9⟩ := dzs_ok h hE hM h2 (fun c hc => hm c (List.mem_append_right _ hc)) (List.nodup_append.1 hnd).2.1 h5
   refine ⟨G1 ++ G2, by unfold Rs; exact ⟨G1, G2, v, ws, rfl, rfl, h6, h4, h8⟩, fun hdp => ?_⟩
   rw [Bool.and_eq_true] at hdp
   exact Excl.append h (h7 hdp.1) (h9 hdp.2) hnd
  ·cases hd
theorem dz_row {x y : V} {m : List Comp} {dp : Bool} (hd : dz σ x = some (y, m, dp)) : ∀ c ∈ m, ∃ i j, c = .r i j ∧ isRow (σ c) = true := by
 unfold dz at hd
 split at hd
 ·simp only [Option.map_eq_some_iff, Prod.mk.injEq] at hd
  obtain ⟨⟨ys, m', d'⟩, h1, rfl, h2⟩ := hd
  simp only [Prod.mk.injEq] at h2
  obtain ⟨rfl, rfl⟩ := h2
  exact dzs_row h1
 ·exact dzc_row hd
theorem dz_ok (h : Sim C E cb Fc σ w a) {M : List Comp} (hE : E.le E') (hM : FzOk E E' σ cb Fc w M) {x y : V} {m : List Comp} {dp : Bool} {F : List Nat} {v : Value} (hd : dz σ x = some (y, m, dp)) (hm : ∀ c ∈ m, c ∈ M) (hnd : m.Nodup) (hx : R x E F v) :
  ∃ F', R y E'.dat F' v ∧ (dp = true → Excl σ cb Fc w m F') := by
 unfold dz at hd
 split at hd
 ·simp only [Option.map_eq_some_iff, Prod.mk.injEq] at hd
  obtain ⟨⟨ys, m', d'⟩, h1, rfl, h2⟩ := hd
  simp only [Prod.mk.injEq] at h2
  obtain ⟨rfl, rfl⟩ := h2
  unfold R at hx
  obtain ⟨vs, rfl, h3⟩ := hx
  obtain ⟨F', h4, h5⟩ := dzs_ok h hE hM h1 hm hnd h3
  exact ⟨F', by unfold R; exact ⟨vs, rfl, h4⟩, h5⟩
 ·exact dzc_ok h hE hM hd hm hx
theorem dzl_row : ∀ {xs ys : List V} {m : List Comp} {dp : Bool}, dzl σ xs = some (ys, m, dp) → ∀ c ∈ m, ∃ i j, c = .r i j ∧ isRow (σ c) = true
 | [], _, _, _, hd => by simp only [dzl, Option.some.injEq, Prod.mk.injEq] at hd; obtain ⟨_, rfl, _⟩ := hd; simp -implicitDefEqProofs -dsimp
 | x :: xs, _, _, _, hd => by
  simp only [dzl] at hd
  split at hd
  ·rename_i y m d ys ms e h1 h2
   simp only [Option.some.injEq, Prod.mk.injEq] at hd
   obtain ⟨_, rfl, _⟩ := hd
   intro c hc
   rcases List.mem_append.1 hc with hc | hc
   ·exact dz_row h1 c hc
   ·exact dzl_row h2 c hc
  ·cases hd
theorem dzl_ok (h : Sim C E cb Fc σ w a) {M : List Comp} (hE : E.le E') (hM : FzOk E E' σ cb Fc w M) {k : Nat} : ∀ {os : List Operand} {ys : List V} {m : List Comp} {dp : Bool}, dzl σ (os.map (sop σ)) = some (ys, m, dp) → (∀ c ∈ m, c ∈ M) → m.Nodup → (∀ x ∈ ys, x.ok = true ∧ x.cs.length = k) →
  ∃ F', Els ys E'.dat F' ((os.map a.eval).flatMap fun v => v.cells.toList) k ∧ (dp = true → Excl σ cb Fc w m F') ∧ (∀ v ∈ os.map a.eval, v.cells.size = k) ∧ ys.length = os.length
 | [], _, _, _, hd, _, _, _ => by
  simp only [List.map_nil, dzl, Option.some.injEq, Prod.mk.injEq] at hd
  obtain ⟨rfl, rfl, _⟩ := hd
  exact ⟨[], by simp only [List.map_nil, List.flatMap_nil]; unfold Els; exact ⟨rfl, rfl⟩, fun _ => Excl.nil .., by simp, rfl⟩
 | o :: os, _, _, _, hd, hm, hnd, hw => by
  simp only [List.map_cons, dzl] at hd
  split at hd
  ·rename_i y m d ys ms e h1 h2
   simp only [Option.some.injEq, Prod.mk.injEq] at hd
   obtain ⟨rfl, rfl, rfl⟩ := hd
   obtain ⟨F, hx⟩ := h.sop o
   obtain ⟨G1, h6, h7⟩ := dz_ok h hE hM h1 (fun c hc => hm c (List.mem_append_left _ hc)) (List.nodup_append.1 hnd).1 hx
   obtain ⟨G2, h8, h9, h10, h11⟩ := dzl_ok h hE hM h2 (fun c hc => hm c (List.mem_append_right _ hc)) (List.nodup_append.1 hnd).2.1 fun x hx => hw x (List.mem_cons_of_mem _ hx)
   have hy := hw y (List.mem_cons_self ..)
   have hcs := R_cs h6 hy.1
   have hsz : (a.eval o).cells.size = k := by rw [← hy.2, ← hcs.len]; simp -implicitDefEqProofs -dsimp
   refine ⟨G1 ++ G2, ?_, fun hdp => ?_, ?_, by simp -implicitDefEqProofs -dsimp [h11]⟩
   ·simp only [List.map_cons, List.flatMap_cons]; unfold Els
    exact ⟨G1, G2, _, _, rfl, rfl, h6, hsz, fun u hu => hcs.one u (by simpa using hu), h8⟩
   ·rw [Bool.and_eq_true] at hdp
    exact Excl.append h (h7 hdp.1) (h9 hdp.2) hnd
   ·intro v hv
    rcases List.mem_cons.1 hv with rfl | hv
    ·exact hsz
    ·exact h10 v hv
  ·cases hd
theorem parts_swap (ps : List (Nat × Operand)) (f : Operand → Value) (n : Nat) (h : ps.map Prod.fst = List.range n) : (ps.map fun p => (p.1, f p.2)) = (((ps.map Prod.snd).map f).zipIdx 0).map fun x => (x.2, x.1) := by
 apply List.ext_getElem?
 intro i
 have h1 := congrArg (fun l => l[i]?) h
 simp only [List.getElem?_map] at h1
 simp only [List.getElem?_map, List.getElem?_zipIdx]
 cases hp : ps[i]? with
 | none => simp -implicitDefEqProofs -dsimp
 | some p =>
  rw [hp] at h1
  simp only [Option.map_some] at h1
  have h2 : (List.range n)[i]? = some p.1 := h1.symm
  rw [List.getElem?_eq_some_iff] at h2
  obtain ⟨h3, h4⟩ := h2
  simp only [List.getElem_range] at h4
  simp -implicitDefEqProofs -dsimp [h4]
theorem Excl.new (h : Sim C E cb Fc σ w a) {m : List Comp} {F : List Nat} (hx : Excl σ cb Fc w m F) (hm : ∀ c ∈ m, ∃ i j, c = .r i j ∧ isRow (σ c) = true) :
  F.Nodup ∧ ∀ b ∈ F, (C.w0.heap.size ≤ b ∨ b ∈ C.X) ∧ b < w.heap.size ∧ PlB w b ∧ ∀ c, b ∉ exc (upds σ (frozen σ m) c) (if c ∈ m then none else cb c) (if c ∈ m then [] else Fc c) := by
 refine ⟨hx.1, fun b hb => ?_⟩
 obtain ⟨h1, c, hc, h2⟩ := hx.2 b hb
 refine ⟨(h.new c b h2).1, (h.new c b h2).2, h1, fun c' h3 => ?_⟩
 have hσ : upds σ (frozen σ m) c' = if c' ∈ m then .sl (rowV (σ c')) else σ c' := upds_frozen σ m σ c'
 rw [hσ] at h3
 by_cases hc' : c' ∈ m
 ·simp -implicitDefEqProofs -dsimp [hc', exc, deep] at h3
 ·simp only [if_neg hc'] at h3
  exact h.dis c c' (fun e => hc' (e ▸ hc)) b h2 h3
theorem so_buildSlice (h : Sim C E cb Fc σ w a) (hP : C.P = P) (hd : okd a.tmps.size dst) (hn : Next C σ a K next) (t : TypeId) (len : Nat) (ps : Array (Nat × Operand)) (hk : wpo P g (.buildSlice t len ps) dst σ K) : (Oper.mk dst (.buildSlice t len ps) ty pos after guard).wp P a w next Q := by
 simp only [wpo] at hk
 split at hk
 ·rename_i e Te d hT
  obtain ⟨ht, hTe⟩ := slTy_ok hT
  split at hk
  ·rename_i ys m dp hz
   obtain ⟨_, hun, hfst, hsmall, hzn, hsz0, hw, hnd, hk⟩ := hk
   have hrow := dzl_row hz
   have hun := isUn_eq hun
   have hdm : Comp.r d 0 ∉ m := fun hm => by
    obtain ⟨i, j, _, hr⟩ := hrow _ hm
    rw [hun] at hr; cases hr
   obtain ⟨h', hM⟩ := h.freezeL m hrow
   have hmap : (ps.toList.map fun p => sop σ p.2) = (ps.toList.map Prod.snd).map (sop σ) := by simp -implicitDefEqProofs -dsimp
   rw [hmap] at hz
   obtain ⟨F', hels, hex, hcells, hlen⟩ := dzl_ok h (fz_le h m) hM hz (fun _ h => h) hnd hw
   have hl2 : ps.toList.length = len := by have := congrArg List.length hfst; simpa using this
   obtain ⟨de, ie, h1, h2, h3, _, _, _, _, h4, _⟩ := hTe.ex
   cases hzv : ie.zero with
   | none => rw [hzv] at h4; exact absurd h4 hzn
   | some z =>
    have hrun : (Instr.buildSlice t len (ps.map fun x => (x.1, a.eval x.2))).run P w = .ok (.slice (some ⟨w.heap.size, 0, none⟩) len len) (w.alloc (.cells (((ps.toList.map Prod.snd).map a.eval).flatMap fun v => v.cells.toList).toArray e)) := by
     by_cases hl0 : len = 0
     ·subst hl0
      have : ps.toList = [] := List.length_eq_zero_iff.1 hl2
      have hps : ps = #[] := by simpa using this
      subst hps
      simp -implicitDefEqProofs -dsimp [Instr.buildSlice, run_underlying ht, sizeOf, typeInfo, h2, Instr.fill, newRow]
      congr 2
      exact Array.ext' (by simp -implicitDefEqProofs -dsimp)
     ·refine run_buildSlice w t e len _ _ ie z ht h2 hzv (by rw [← h3]; omega) (by rw [← h3]; exact Nat.mul_ne_zero hl0 (by omega)) ?_
      have e1 : (ps.map fun x => (x.1, a.eval x.2)).toList = ps.toList.map fun p => (p.1, a.eval p.2) := by simp -implicitDefEqProofs -dsimp
      rw [e1, parts_swap ps.toList a.eval len hfst, ← h3]
      refine Great.fill_whole hsz0 _ _ hcells ?_
      simp -implicitDefEqProofs -dsimp [hl2]
    have hnew := Sim.newR h' (d := d) (dp := dp) (e := e) (k := Te.sz) (ys := ys) (F := F') (arr := (((ps.toList.map Prod.snd).map a.eval).flatMap fun v => v.cells.toList).toArray)
     (by rw [show upds σ (frozen σ m) (.r d 0) = if Comp.r d 0 ∈ m then .sl (rowV (σ (.r d 0))) else σ (.r d 0) from upds_frozen σ m σ _, if_neg hdm]; exact hun) hd (hP ▸ hTe.info) hsz0 (by simpa using hels)
     (by rw [hlen, List.length_map, hl2]; unfold maxLen; have := Nat.le_mul_of_pos_right len hsz0; omega)
     (fun hdp => (hex hdp).new h hrow)
    rw [hlen, List.length_map, hl2] at hnew
    unfold Oper.wp
    have hrun' : (execOp a.eval ⟨some d, .buildSlice t len ps, ty, pos, after, guard⟩).run P w = .ok (.value (.slice (some ⟨w.heap.size, 0, none⟩) len len)) (w.alloc (.cells (((ps.toList.map Prod.snd).map a.eval).flatMap fun v => v.cells.toList).toArray e)) := by
     simp only [execOp, Sem.run_bind, hrun, Result.andThen_ok, Sem.run_pure]
    rw [hrun', Oper.upon_value]
    refine hn _ _ _ _ hk ?_ (by simp -implicitDefEqProofs -dsimp [Act.put])
    rw [upds_append]
    exact hnew
  ·exact hk.elim
 ·exact hk.elim
end
end Go.Proofs.YtlfblkekbcfjpaaGreatDoor
