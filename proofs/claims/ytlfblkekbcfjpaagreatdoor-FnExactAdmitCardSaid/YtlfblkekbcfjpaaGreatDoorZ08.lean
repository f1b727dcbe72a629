/- Part of a proof: contracts and plain laws. -/
import Derived.Test.YtlfblkekbcfjpaaGreatDoorZ07
set_option linter.unusedVariables false
set_option linter.unusedSimpArgs false
namespace Go.Proofs.YtlfblkekbcfjpaaGreatDoor
open Go.RowKit
section
variable {P : Program} {g : Prop} {σ : St} {K : List (Comp × V) → List Comp → Prop}
theorem binV_ex {op : BinOp} {x y : V} {K : Prop → Value → Prop} (h : binV op x y K) : ∃ s v, K s v := by
 unfold binV at h
 split at h
 ·cases op <;> exact ⟨_, _, h⟩
 ·cases op <;> first | exact ⟨_, _, h⟩ | exact h.elim
 ·exact ⟨_, _, h⟩
theorem cutV_ex {n : Nat} {lo hi : Option V} {K : Prop → Nat → Nat → Prop} (h : cutV n g lo hi K) : ∃ c l u, K c l u := by
 unfold cutV at h
 split at h <;> first | exact ⟨_, _, _, h⟩ | exact h.elim
theorem unV_ex {op : UnOp} {x : V} {K : Value → Prop} (h : unV op x K) : ∃ v, K v := by
 unfold unV at h
 split at h <;> first | exact ⟨_, h⟩ | exact h.elim
theorem appY_ex {t t' e : TypeId} {Te : TD} {y : V} {d : Nat} {m : List Comp} {dp : Bool} {xs : List V} (h : appY P g t t' e Te y d σ K m dp xs) : ∃ ws rd, K ws rd := by
 unfold appY at h
 repeat' first
  | exact h.elim
  | split at h
  | (unfold appK at h; obtain ⟨_, _, _, _, _, _, h⟩ := h; exact ⟨_, _, h⟩)
  | (obtain ⟨_, _, _, _, _, h⟩ := h; unfold appK at h; obtain ⟨_, _, _, _, _, _, h⟩ := h; exact ⟨_, _, h⟩)
  | (obtain ⟨_, _, _, h⟩ := h; unfold appK at h; obtain ⟨_, _, _, _, _, _, h⟩ := h; exact ⟨_, _, h⟩)
  | (obtain ⟨_, _, h⟩ := h; unfold appK at h; obtain ⟨_, _, _, _, _, _, h⟩ := h; exact ⟨_, _, h⟩)
  | (obtain ⟨_, h⟩ := h; unfold appK at h; obtain ⟨_, _, _, _, _, _, h⟩ := h; exact ⟨_, _, h⟩)
theorem wpo_ex {op : Op} {d : Option Nat} (h : wpo P g op d σ K) : ∃ ws rd, K ws rd := by
 cases op <;> simp only [wpo] at h
 case binOp => obtain ⟨_, _, _, h⟩ := binV_ex h; exact ⟨_, _, h⟩
 case unOp => obtain ⟨_, h⟩ := unV_ex h; exact ⟨_, _, h⟩
 case makeFunc fn _ _ =>
  cases fn <;> simp only [wpo] at h
  exact ⟨_, _, h.2.2⟩
 case slice lo hi mx =>
  cases mx with
  | some m =>
   cases lo with
   | some l => simp only [wpo] at h
   | none =>
    cases hi with
    | none => simp only [wpo] at h
    | some hi =>
     simp only [wpo] at h
     split at h
     ·exact ⟨_, _, h.2.2⟩
     ·exact h.elim
  | none => ?_
  simp only [wpo] at h
  repeat' first
   | exact h.elim
   | split at h
   | (obtain ⟨_, _, _, _, h⟩ := cutV_ex h; first | exact ⟨_, _, h.2⟩ | exact ⟨_, _, h⟩)
   | (obtain ⟨_, h⟩ := h; obtain ⟨_, _, _, _, h⟩ := cutV_ex h; first | exact ⟨_, _, h.2⟩ | exact ⟨_, _, h⟩)
 all_goals
  repeat' first
   | exact ⟨_, _, h⟩
   | exact h.elim
   | split at h
   | (obtain ⟨_, h⟩ := h)
theorem wpop_ex {op : Op} {d : Option Nat} (h : wpop P g op d σ K) : ∃ ws rd, K ws rd := by
 cases op with
 | pick c x y =>
  simp only [wpop] at h
  split at h
  ·exact ⟨_, _, h⟩
  ·exact h.elim
 | call c =>
  obtain ⟨ce, args, ats⟩ := c
  simp only [wpop] at h
  unfold wpcl at h
  split at h
  ·split at h
   ·obtain ⟨ys, outs, rs, _, h⟩ := h
    obtain ⟨_, _, _, _, _, _, _, _, _, _, h⟩ := h
    exact ⟨_, _, h⟩
   ·exact h.elim
  ·unfold wpapp at h
   repeat' first
    | exact h.elim
    | split at h
    | exact appY_ex h
    | exact appY_ex h.2
  all_goals
   repeat' first
    | exact ⟨_, _, h⟩
    | exact h.elim
    | split at h
    | (obtain ⟨_, h⟩ := h)
 | _ => simp only [wpop] at h; exact wpo_ex h
end
section
variable {C : Ctx} {E : Env} {cb : Comp → Option Nat} {Fc : Comp → List Nat} {σ : St} {w : World} {a : Act}
variable {P : Program} {K : List (Comp × V) → List Comp → Prop} {next : Act → World → Prop} {Q : Exit → Act → World → Prop}
theorem Sim.weak (h : Sim C E cb Fc σ w a) {τ : St} (hm : ∀ c, (∀ i, c ≠ .t i) → τ c = σ c) (ht : ∀ i v F, R (σ (.t i)) E F v → ∃ F', R (τ (.t i)) E F' v) : Sim C E cb Fc τ w a := by
 refine h.gen [] (fun c _ hc => ⟨hm c hc, rfl, rfl⟩) h.cbt (Env.le.rfl' E) (fun _ _ h => h) (fun _ _ _ h => h) h.frz (fun _ _ _ h => .inl h) (fun _ _ _ => rfl) (Nat.le_refl _) rfl rfl rfl (fun i => ?_) (by simp -implicitDefEqProofs -dsimp) h.out (by simp -implicitDefEqProofs -dsimp) (by simp -implicitDefEqProofs -dsimp) (by simp -implicitDefEqProofs -dsimp) h.dfr (by simp -implicitDefEqProofs -dsimp)
 obtain ⟨F, h1⟩ := h.tmp i
 exact ht i _ F h1
theorem Sim.strip (h : Sim C E cb Fc σ w a) {b wt : Bool} (hb : b = wt) : Sim C E cb Fc (fun c => (σ c).st b wt) w a := by
 refine h.weak (fun c hc => ?_) fun i v F hr => ⟨F, R.st hb hr⟩
 have h1 := h.mem c
 unfold V.st
 split
 ·rename_i b' w' x he
  rw [he] at h1
  cases c with
  | t i => exact absurd rfl (hc i)
  | b i => simp -implicitDefEqProofs -dsimp [COk] at h1
  | r i j => simp -implicitDefEqProofs -dsimp [COk] at h1
 ·rfl
theorem R_gd {b wt : Bool} {x : V} {E : Env} {F : List Nat} {v : Value} (hb : b = wt) (h : R x E F v) : R (.gd b wt x) E F v := by
 unfold R; exact ⟨fun _ => h, fun e => absurd hb e⟩
theorem R_unst {b wt : Bool} {x : V} {E : Env} {F : List Nat} {v : Value} (hb : b = wt) (h : R (x.st b wt) E F v) : ∃ F', R x E F' v := by
 unfold V.st at h
 split at h
 ·split at h
  ·rename_i hc
   rw [hc.1, hc.2]; exact ⟨F, R_gd hb h⟩
  ·exact ⟨F, h⟩
 ·exact ⟨F, h⟩
theorem yielded_of {ops : Array Oper} {tmps : Array Value} {j i : Nat} {b : Bool} (hj : (ops[j]?).bind (·.dst) = some i) (hi : i < tmps.size) (h : tmps.getD i undef = .bool b) : yielded ops tmps j = some b := by
 unfold yielded
 rw [hj]
 simp only [Option.bind_some]
 rw [Array.getD_eq_getD_getElem?, Array.getElem?_eq_getElem hi] at h
 rw [Array.getElem?_eq_getElem hi]
 simp only [Option.getD_some] at h
 rw [h]
theorem yielded_none {ops : Array Oper} {tmps : Array Value} {j i : Nat} (hj : (ops[j]?).bind (·.dst) = some i) (h : tmps.getD i undef = undef) : yielded ops tmps j = none := by
 unfold yielded
 rw [hj]
 simp only [Option.bind_some]
 by_cases hi : i < tmps.size
 ·rw [Array.getD_eq_getD_getElem?, Array.getElem?_eq_getElem hi] at h
  rw [Array.getElem?_eq_getElem hi]
  simp only [Option.getD_some] at h
  rw [h]; rfl
 ·rw [Array.getElem?_eq_none (Nat.le_of_not_lt hi)]
theorem gdl_R {E : Env} {F : List Nat} {v : Value} : ∀ {x : V} {l : List (Bool × Bool)} {b : Bool}, gdl x = some (l, b) → R x E F v → (gH l → v = .bool b) ∧ (¬ gH l → v = undef)
 | .sc (.bool b'), l, b, hg, hr => by
  simp only [gdl, Option.some.injEq, Prod.mk.injEq] at hg
  obtain ⟨rfl, rfl⟩ := hg
  exact ⟨fun _ => R_sc hr, fun hn => absurd trivial hn⟩
 | .gd b' w' x, l, b, hg, hr => by
  simp only [gdl] at hg
  split at hg
  ·rename_i l' c hx
   simp only [Option.some.injEq, Prod.mk.injEq] at hg
   obtain ⟨rfl, rfl⟩ := hg
   unfold R at hr
   refine ⟨fun h => (gdl_R hx (hr.1 h.1)).1 h.2, fun hn => ?_⟩
   by_cases hb : b' = w'
   ·exact (gdl_R hx (hr.1 hb)).2 fun hl => hn ⟨hb, hl⟩
   ·exact (hr.2 hb).2
  ·cases hg
theorem gH_app {l : List (Bool × Bool)} {b w : Bool} : gH (l ++ [(b, w)]) ↔ gH l ∧ b = w := by
 induction l with
 | nil => simp -implicitDefEqProofs -dsimp [gH]
 | cons p l ih => simp only [List.cons_append, gH, ih, and_assoc]
theorem Sim.stripl : ∀ {l : List (Bool × Bool)} {σ : St}, Sim C E cb Fc σ w a → gH l → Sim C E cb Fc (fun c => stl l (σ c)) w a
 | [], _, h, _ => h
 | p :: l, σ, h, hg => Sim.stripl (σ := fun c => (σ c).st p.1 p.2) (h.strip hg.1) hg.2
theorem R_unstl {E : Env} {v : Value} : ∀ {l : List (Bool × Bool)} {x : V} {F : List Nat}, gH l → R (stl l x) E F v → ∃ F', R x E F' v
 | [], _, F, _, h => ⟨F, h⟩
 | p :: l, x, F, hg, h => by
  obtain ⟨F', h1⟩ := R_unstl (l := l) (x := x.st p.1 p.2) hg.2 h
  exact R_unst hg.1 h1
theorem R_gw {E : Env} {v : Value} {x : V} {F : List Nat} (h : R x E F v) : ∀ {l : List (Bool × Bool)}, gH l → R (gw l x) E F v
 | [], _ => h
 | p :: l, hg => R_gd hg.1 (R_gw h hg.2)
theorem R_gw_un {E : Env} {x : V} : ∀ {l : List (Bool × Bool)}, ¬ gH l → R (gw l x) E [] undef
 | [], h => absurd trivial h
 | p :: l, h => by
  unfold gw R
  exact ⟨fun e => R_gw_un fun hl => h ⟨e, hl⟩, fun _ => ⟨rfl, rfl⟩⟩
theorem COk_st {P : Program} {E : Env} {w : World} {c : Comp} {x : V} {g : Option Nat} {F : List Nat} (h : COk P E w c x g F) (hc : ∀ i, c ≠ .t i) (b wt : Bool) : x.st b wt = x := by
 unfold V.st
 split
 ·cases c with
  | t i => exact absurd rfl (hc i)
  | b i => simp -implicitDefEqProofs -dsimp [COk] at h
  | r i j => simp -implicitDefEqProofs -dsimp [COk] at h
 ·rfl
theorem COk_stl {P : Program} {E : Env} {w : World} {c : Comp} {x : V} {g : Option Nat} {F : List Nat} (h : COk P E w c x g F) (hc : ∀ i, c ≠ .t i) : ∀ l : List (Bool × Bool), stl l x = x
 | [] => rfl
 | p :: l => by rw [stl, COk_st h hc, COk_stl h hc l]
theorem wpg_sound (h : Sim C E cb Fc σ w a) (hP : C.P = P) {n : Nat} (hsz : a.tmps.size = n) {ops : Array Oper} {o : Oper} (hn : Next C σ a K next) (hout : True) (hk : wpg P n ops o σ K) :
  if Region.wanted o (yielded ops a.tmps) then o.wp P a w next Q ∨ (o.asks P a w ∧ LetsOut Q) else next (a.put o.dst undef) w := by
 obtain ⟨dst, op, ty, pos, after, guard⟩ := o
 obtain ⟨hd, hk⟩ := hk
 rw [← hsz] at hd
 cases guard with
 | none =>
  simp only [Region.wanted, if_true]
  exact .inl (wpop_sound h hP trivial hd hn hout op hk)
 | some p =>
  obtain ⟨j, wt⟩ := p
  simp only at hk
  split at hk
  ·rename_i i hj
   obtain ⟨hi, hk⟩ := hk
   split at hk
   ·rename_i l b hb
    obtain ⟨F, ht⟩ := h.tmp i
    have hv := gdl_R hb ht
    by_cases hg : gH (l ++ [(b, wt)])
    ·obtain ⟨hg1, hg2⟩ := gH_app.1 hg
     have hy := yielded_of (tmps := a.tmps) hj (by rw [hsz]; exact hi) (hv.1 hg1)
     have hwant : Region.wanted ⟨dst, op, ty, pos, after, some (j, wt)⟩ (yielded ops a.tmps) = true := by
      subst hg2
      simp only [Region.wanted, hy]
      cases b <;> rfl
     rw [if_pos hwant]
     generalize l ++ [(b, wt)] = L at hk hg
     refine .inl (wpop_sound (h.stripl hg) hP hg hd ?_ hout op hk)
     intro ws rd a' w' hK hh hs
     have unst : ∀ (ws' : List (Comp × V)), (∀ c, (∀ i, c ≠ .t i) → upds σ ws' c = upds (fun c => stl L (σ c)) ws c) → (∀ i v E F, R (upds (fun c => stl L (σ c)) ws (.t i)) E F v → ∃ F', R (upds σ ws' (.t i)) E F' v) → Held C (upds σ ws') w' a' := fun ws' h1 h2 => by
      obtain ⟨E', cb', Fc', h3⟩ := hh
      exact ⟨E', cb', Fc', h3.weak h1 fun i v F hr => h2 i v E' F hr⟩
     have hst : ∀ c, (∀ i, c ≠ .t i) → stl L (σ c) = σ c := fun c hc => COk_stl (h.mem c) hc L
     have gen : ∀ (ws : List (Comp × V)) (τ τ' : St), (∀ c, (∀ i, c ≠ .t i) → τ' c = τ c) → (∀ i v E F, R (τ (.t i)) E F v → ∃ F', R (τ' (.t i)) E F' v) →
       (∀ c, (∀ i, c ≠ .t i) → upds τ' ws c = upds τ ws c) ∧ (∀ i v E F, R (upds τ ws (.t i)) E F v → ∃ F', R (upds τ' ws (.t i)) E F' v) := by
      intro ws
      induction ws with
      | nil => intro τ τ' h1 h2; exact ⟨h1, h2⟩
      | cons p ws ih =>
       intro τ τ' h1 h2
       refine ih (upd τ p.1 p.2) (upd τ' p.1 p.2) (fun c hc => ?_) (fun i v E F hr => ?_)
       ·by_cases e : c = p.1
        ·subst e; rw [upd_self, upd_self]
        ·rw [upd_ne _ _ e, upd_ne _ _ e]; exact h1 c hc
       ·by_cases e : Comp.t i = p.1
        ·rw [← e, upd_self] at hr ⊢; exact ⟨F, hr⟩
        ·rw [upd_ne _ _ e] at hr ⊢; exact h2 i v E F hr
     have g0 := gen ws (fun c => stl L (σ c)) σ (fun c hc => (hst c hc).symm) (fun i v E F hr => R_unstl hg hr)
     unfold gdK at hK
     split at hK
     ·rename_i d d' x
      obtain ⟨rfl, hK⟩ := hK
      refine hn _ _ a' w' hK (unst _ (fun c hc => ?_) (fun i v E F hr => ?_)) hs
      ·simp only [upds]; rw [upd_ne _ _ (hc _), upd_ne _ _ (hc _)]; exact (hst c hc).symm
      ·simp only [upds] at hr ⊢
       by_cases e : i = d'
       ·subst e; rw [upd_self] at hr ⊢; exact ⟨F, R_gw hr hg⟩
       ·rw [upd_ne _ _ (by simp -implicitDefEqProofs -dsimp [e])] at hr ⊢; exact R_unstl hg hr
     ·exact hn _ _ a' w' hK.2 (unst _ g0.1 g0.2) hs
    ·have hwant : Region.wanted ⟨dst, op, ty, pos, after, some (j, wt)⟩ (yielded ops a.tmps) = false := by
      by_cases hg1 : gH l
      ·have hy := yielded_of (tmps := a.tmps) hj (by rw [hsz]; exact hi) (hv.1 hg1)
       have hne : b ≠ wt := fun e => hg (gH_app.2 ⟨hg1, e⟩)
       simp only [Region.wanted, hy]
       cases b <;> cases wt <;> first | rfl | exact absurd rfl hne
      ·have hy := yielded_none (tmps := a.tmps) hj (hv.2 hg1)
       simp only [Region.wanted, hy]
       cases wt <;> rfl
     rw [if_neg (by rw [hwant]; simp -implicitDefEqProofs -dsimp)]
     obtain ⟨ws, rd, hK⟩ := wpop_ex hk
     unfold gdK at hK
     split at hK
     ·rename_i d d' x
      obtain ⟨rfl, hK⟩ := hK
      refine hn _ _ _ w hK ?_ (by simp -implicitDefEqProofs -dsimp [Act.put])
      exact (h.put (F := []) (v := undef) hd (R_gw_un hg)).held
     ·exact absurd hK.1 hg
   ·exact hk.elim
  ·exact hk.elim
theorem wps_sound (hP : C.P = P) {n : Nat} {ops : Array Oper} {Q' : St → Prop} (hout : True) (hQ : ∀ σ w a, Q' σ → Held C σ w a → a.tmps.size = n → Q .normal a w) : ∀ (os : List Oper) {σ : St} {w : World} {a : Act}, wps P n ops Q' os σ → Held C σ w a → a.tmps.size = n → wpList P ops Q os a w
 | [], σ, w, a, hk, hh, hs => hQ σ w a hk hh hs
 | o :: os, σ, w, a, hk, ⟨E, cb, Fc, h⟩, hs => by
  simp only [wps] at hk
  have := wpg_sound (Q := Q) (next := wpList P ops Q os) h hP hs (fun ws rd a' w' hK hh hsz => wps_sound hP hout hQ os hK hh (hsz.trans hs)) hout hk
  unfold wpList
  exact this
end
end Go.Proofs.YtlfblkekbcfjpaaGreatDoor
namespace Go.Proofs.YtlfblkekbcfjpaaGreatDoor
open Go.RowKit
section
variable {P : Program} {g : Prop} {σ : St} {K : List (Comp × V) → List Comp → Prop}
def AtP (op : Op) (σ : St) (K : List (Comp × V) → List Comp → Prop) (wp : St → (List (Comp × V) → List Comp → Prop) → Prop) : Prop :=
 ∃ ws rd, K ws rd ∧ ∀ τ K', (∀ x ∈ op.operands.toList, sop τ x = sop σ x) → (∀ c ∈ rd, τ c = σ c) → (∀ p ∈ ws, τ p.1 = σ p.1) → K' ws rd → wp τ K'
theorem binV_at {op : BinOp} {x y : V} {K : Prop → Value → Prop} (h : binV op x y K) : ∃ s v, K s v ∧ ∀ K' : Prop → Value → Prop, K' s v → binV op x y K' := by
 unfold binV at h ⊢
 split at h
 ·cases op <;> exact ⟨_, _, h, fun _ h => h⟩
 ·cases op <;> first | exact ⟨_, _, h, fun _ h => h⟩ | exact h.elim
 ·exact ⟨_, _, h, fun _ h => h⟩
theorem cutV_at {n : Nat} {lo hi : Option V} {K : Prop → Nat → Nat → Prop} (h : cutV n g lo hi K) : ∃ c l u, K c l u ∧ ∀ K' : Prop → Nat → Nat → Prop, K' c l u → cutV n g lo hi K' := by
 unfold cutV at h ⊢
 split at h <;> first | exact ⟨_, _, _, h, fun _ h => h⟩ | exact h.elim
theorem unV_at {op : UnOp} {x : V} {K : Value → Prop} (h : unV op x K) : ∃ v, K v ∧ ∀ K' : Value → Prop, K' v → unV op x K' := by
 unfold unV at h ⊢
 split at h <;> first | exact ⟨_, h, fun _ h => h⟩ | exact h.elim
theorem at_simple {d : Option Nat} {op : Op} (h : wpo P g op d σ K)
  (hop : match op with | .move _ | .assign _ | .alloc _ | .box .. | .load .. | .store .. | .nilCheck _ | .fieldAddr .. | .field .. | .index .. | .extract .. => True | _ => False) : AtP op σ K (fun τ K' => wpo P g op d τ K') := by
 cases op <;> simp only at hop <;> simp only [wpo] at h
 all_goals
  repeat' first
   | exact h.elim
   | split at h
   | (obtain ⟨_, h⟩ := h)
 all_goals
  refine ⟨_, _, h, fun τ K' hs hr hw hk => ?_⟩
  simp -implicitDefEqProofs -dsimp [Op.operands] at hs
  simp_all [wpo]
theorem dzc_at {τ : St} {x : V} (h : ∀ c ∈ refC x, τ c = σ c) : dzc τ x = dzc σ x := by
 cases x <;> simp only [dzc]
 rename_i i j
 rw [h _ (by simp -implicitDefEqProofs -dsimp [refC])]
theorem dzs_at {τ : St} : ∀ {xs : List V}, (∀ c ∈ xs.flatMap refC, τ c = σ c) → dzs τ xs = dzs σ xs
 | [], _ => rfl
 | x :: xs, h => by
  simp only [dzs]
  rw [dzc_at fun c hc => h c (by simp -implicitDefEqProofs -dsimp [hc]), dzs_at fun c hc => h c (by
   simp only [List.flatMap_cons, List.mem_append]; exact .inr hc)]
theorem dz_at {τ : St} {x : V} (h : ∀ c ∈ refs x, τ c = σ c) : dz τ x = dz σ x := by
 by_cases hx : ∃ cs, x = .ag cs
 ·obtain ⟨cs, rfl⟩ := hx
  simp only [dz]; rw [dzs_at h]
 ·have e1 : ∀ τ, dz τ x = dzc τ x := fun τ => by cases x <;> first | rfl | exact absurd ⟨_, rfl⟩ hx
  have e2 : refs x = refC x := by cases x <;> first | rfl | exact absurd ⟨_, rfl⟩ hx
  rw [e1, e1]; exact dzc_at (e2 ▸ h)
theorem dzl_at {τ : St} : ∀ {xs : List V}, (∀ c ∈ xs.flatMap refs, τ c = σ c) → dzl τ xs = dzl σ xs
 | [], _ => rfl
 | x :: xs, h => by
  simp only [dzl]
  rw [dz_at fun c hc => h c (by simp only [List.flatMap_cons, List.mem_append]; exact .inl hc), dzl_at fun c hc => h c (by
   simp only [List.flatMap_cons, List.mem_append]; exact .inr hc)]
theorem dzc_m {x y : V} {m : List Comp} {dp : Bool} (h : dzc σ x = some (y, m, dp)) : ∀ c ∈ m, c ∈ refC x := by
 unfold dzc at h
 split at h
 ·split at h <;> first | (cases h; done) | (simp only [Option.some.injEq, Prod.mk.injEq] at h; obtain ⟨_, rfl, _⟩ := h; simp -implicitDefEqProofs -dsimp [refC])
 all_goals first | (cases h; done) | (simp only [Option.some.injEq, Prod.mk.injEq] at h; obtain ⟨_, rfl, _⟩ := h; simp -implicitDefEqProofs -dsimp)
theorem dzs_m : ∀ {xs ys : List V} {m : List Comp} {dp : Bool}, dzs σ xs = some (ys, m, dp) → ∀ c ∈ m, c ∈ xs.flatMap refC
 | [], _, _, _, h => by simp only [dzs, Option.some.injEq, Prod.mk.injEq] at h; obtain ⟨_, rfl, _⟩ := h; simp -implicitDefEqProofs -dsimp
 | x :: xs, _, _, _, h => by
  simp only [dzs] at h
  split at h
  ·rename_i h1 h2
   simp only [Option.some.injEq, Prod.mk.injEq] at h
   obtain ⟨_, rfl, _⟩ := h
   intro c hc
   simp only [List.flatMap_cons, List.mem_append] at hc ⊢
   exact hc.imp (dzc_m h1 c) (dzs_m h2 c)
  ·cases h
theorem dz_m {x y : V} {m : List Comp} {dp : Bool} (h : dz σ x = some (y, m, dp)) : ∀ c ∈ m, c ∈ refs x := by
 unfold dz at h
 split at h
 ·simp only [Option.map_eq_some_iff, Prod.mk.injEq] at h
  obtain ⟨⟨ys, m', d'⟩, h1, _, h2⟩ := h
  simp only [Prod.mk.injEq] at h2
  obtain ⟨rfl, _⟩ := h2
  exact dzs_m h1
 ·rename_i hna
  have : refs x = refC x := by cases x <;> first | rfl | exact absurd rfl (hna _)
  rw [this]; exact dzc_m h
theorem dzl_m : ∀ {xs ys : List V} {m : List Comp} {dp : Bool}, dzl σ xs = some (ys, m, dp) → ∀ c ∈ m, c ∈ xs.flatMap refs
 | [], _, _, _, h => by simp only [dzl, Option.some.injEq, Prod.mk.injEq] at h; obtain ⟨_, rfl, _⟩ := h; simp -implicitDefEqProofs -dsimp
 | x :: xs, _, _, _, h => by
  simp only [dzl] at h
  split at h
  ·rename_i h1 h2
   simp only [Option.some.injEq, Prod.mk.injEq] at h
   obtain ⟨_, rfl, _⟩ := h
   intro c hc
   simp only [List.flatMap_cons, List.mem_append] at hc ⊢
   exact hc.imp (dz_m h1 c) (dzl_m h2 c)
  ·cases h
theorem frozen_at {τ : St} {m : List Comp} (h : ∀ c ∈ m, τ c = σ c) : frozen τ m = frozen σ m := by
 unfold frozen
 exact List.map_congr_left fun c hc => by rw [h c hc]
theorem sops_at {τ : St} {os : List Operand} (h : ∀ x ∈ os, sop τ x = sop σ x) : os.map (sop τ) = os.map (sop σ) := List.map_congr_left h
theorem wpo_at {d : Option Nat} {op : Op} (h : wpo P g op d σ K) : AtP op σ K (fun τ K' => wpo P g op d τ K') := by
 cases op
 case build t ps =>
  simp only [wpo] at h
  split at h
  ·rename_i T hT
   split at h
   ·rename_i fs hfs
    split at h
    ·rename_i cs hb
     obtain ⟨h1, h2, h⟩ := h
     refine ⟨_, _, h, fun τ K' hs hr hw hk => ?_⟩
     have e1 : (ps.toList.map fun p => (p.1, sop τ p.2)) = ps.toList.map fun p => (p.1, sop σ p.2) := List.map_congr_left fun p hp => by
      rw [hs p.2 (by simp only [Op.operands]; exact List.mem_map.2 ⟨p, hp, rfl⟩)]
     simp only [wpo, hT, hfs, e1, hb]
     exact ⟨h1, h2, hk⟩
    ·exact h.elim
   ·exact h.elim
  ·exact h.elim
 case buildSlice t len ps =>
  simp only [wpo] at h
  split at h
  ·rename_i e Te d hT
   split at h
   ·rename_i ys m dp hz
    obtain ⟨h1, h2, h3, h4, h5, h6, h7, h8, h⟩ := h
    refine ⟨_, _, h, fun τ K' hs hr hw hk => ?_⟩
    have e1 : (ps.toList.map fun p => sop τ p.2) = ps.toList.map fun p => sop σ p.2 := List.map_congr_left fun p hp => by
     rw [hs p.2 (by simp only [Op.operands]; exact List.mem_map.2 ⟨p, hp, rfl⟩)]
    have e0 : (ps.toList.flatMap fun p => refs (sop σ p.2)) = (ps.toList.map fun p => sop σ p.2).flatMap refs := by rw [List.flatMap_map]
    have e00 : (ps.toList.flatMap fun p => refs (sop τ p.2)) = ps.toList.flatMap fun p => refs (sop σ p.2) := by
     rw [e0, ← e1, List.flatMap_map]
    have e2 : dzl τ (ps.toList.map fun p => sop σ p.2) = some (ys, m, dp) := by rw [dzl_at (σ := σ) fun c hc => hr c (by rw [e0]; exact hc)]; exact hz
    have e3 : frozen τ m = frozen σ m := frozen_at fun c hc => hr c (by rw [e0]; exact dzl_m hz c hc)
    have e4 : τ (.r d 0) = σ (.r d 0) := hw (.r d 0, _) (List.mem_append_right _ (List.mem_cons_self ..))
    simp only [wpo, hT, e1, e2, e3, e4, e00]
    exact ⟨h1, h2, h3, h4, h5, h6, h7, h8, hk⟩
   ·exact h.elim
  ·exact h.elim
 case binOp op t x y t' =>
  simp only [wpo] at h
  obtain ⟨s, v, ⟨h1, h2⟩, h3⟩ := binV_at h
  refine ⟨_, _, h2, fun τ K' hs hr hw hk => ?_⟩
  simp -implicitDefEqProofs -dsimp [Op.operands] at hs
  simp only [wpo, hs]
  exact h3 _ ⟨h1, hk⟩
 case unOp op t x =>
  simp only [wpo] at h
  obtain ⟨v, h2, h3⟩ := unV_at h
  refine ⟨_, _, h2, fun τ K' hs hr hw hk => ?_⟩
  simp -implicitDefEqProofs -dsimp [Op.operands] at hs
  simp only [wpo, hs]
  exact h3 _ hk
 case makeFunc fn fs cs =>
  cases fn <;> simp only [wpo] at h
  obtain ⟨h1, h2, h⟩ := h
  refine ⟨_, _, h, fun τ K' hs hr hw hk => ?_⟩
  have hs' : ∀ x ∈ cs.toList, sop τ x = sop σ x := fun x hx => hs x (by simp only [Op.operands, Array.toList_append]; exact List.mem_append_right _ hx)
  simp only [wpo, sops_at hs']
  exact ⟨h1, fun x hx => by rw [hs' x hx]; exact h2 x hx, hk⟩
 case slice t x lo hi mx =>
  cases mx with
  | some m =>
   cases lo with
   | some l => simp only [wpo] at h
   | none =>
    cases hi with
    | none => simp only [wpo] at h
    | some hi =>
     simp only [wpo] at h
     split at h
     ·rename_i e1 e2 e3 e4
      obtain ⟨h1, h2, h3⟩ := h
      refine ⟨_, _, h3, fun τ K' hs hr hw hk => ?_⟩
      simp -implicitDefEqProofs -dsimp [Op.operands] at hs
      simp only [wpo, hs, e1, e2, e3, e4]
      exact ⟨h1, h2, hk⟩
     ·exact h.elim
  | none => ?_
  simp only [wpo] at h
  have hlo : ∀ τ, (∀ y ∈ (Op.slice t x lo hi none).operands.toList, sop τ y = sop σ y) → sop τ x = sop σ x ∧ lo.map (sop τ) = lo.map (sop σ) ∧ hi.map (sop τ) = hi.map (sop σ) := fun τ hs => by
   cases lo <;> cases hi <;> simp -implicitDefEqProofs -dsimp [Op.operands] at hs <;> simp -implicitDefEqProofs -dsimp [hs]
  split at h
  ·rename_i s he
   obtain ⟨h0, h⟩ := h
   obtain ⟨c, l, u, ⟨h1, h2⟩, h3⟩ := cutV_at h
   refine ⟨_, _, h2, fun τ K' hs hr hw hk => ?_⟩
   obtain ⟨e1, e2, e3⟩ := hlo τ hs
   simp only [wpo, e1, e2, e3, he]
   exact ⟨h0, h3 _ ⟨h1, hk⟩⟩
  ·rename_i xs he
   split at h
   ·rename_i e Te hT
    obtain ⟨h0, h⟩ := h
    obtain ⟨c, l, u, ⟨h1, h2⟩, h3⟩ := cutV_at h
    refine ⟨_, _, h2, fun τ K' hs hr hw hk => ?_⟩
    obtain ⟨e1, e2, e3⟩ := hlo τ hs
    simp only [wpo, e1, e2, e3, he, hT]
    exact ⟨h0, h3 _ ⟨h1, hk⟩⟩
   ·exact h.elim
  ·rename_i i j he
   split at h
   ·rename_i dd e xs e' Te hb hT
    obtain ⟨h0, h⟩ := h
    obtain ⟨c, l, u, ⟨h1, h1', h2⟩, h3⟩ := cutV_at h
    refine ⟨_, _, h2, fun τ K' hs hr hw hk => ?_⟩
    obtain ⟨e1, e2, e3⟩ := hlo τ hs
    have e4 := hr (.r i j) (by simp -implicitDefEqProofs -dsimp)
    simp only [wpo, e1, e2, e3, e4, he, hT, hb]
    exact ⟨h0, h3 _ ⟨h1, h1', hk⟩⟩
   ·rename_i xs e' Te hb hT
    obtain ⟨h0, h⟩ := h
    obtain ⟨c, l, u, ⟨h1, h2⟩, h3⟩ := cutV_at h
    refine ⟨_, _, h2, fun τ K' hs hr hw hk => ?_⟩
    obtain ⟨e1, e2, e3⟩ := hlo τ hs
    have e4 := hr (.r i j) (by simp -implicitDefEqProofs -dsimp)
    simp only [wpo, e1, e2, e3, e4, he, hT, hb]
    exact ⟨h0, h3 _ ⟨h1, hk⟩⟩
   ·exact h.elim
  ·exact h.elim
 case convert s t x =>
  have hlv : ∀ τ y xs rd, lv σ y = some (xs, rd) → (∀ c ∈ rd, τ c = σ c) → lv τ y = some (xs, rd) := fun τ y xs rd hl hr => by
   unfold lv at hl ⊢
   split at hl
   ·exact hl
   ·exact hl
   ·rename_i i j
    have hm : Comp.r i j ∈ rd := by
     split at hl <;> first | (cases hl; done) | (simp only [Option.some.injEq, Prod.mk.injEq] at hl; rw [← hl.2]; simp -implicitDefEqProofs -dsimp)
    rw [hr _ hm]; exact hl
   ·cases hl
  simp only [wpo] at h
  split at h
  ·rename_i S T hS hT
   split at h
   ·rename_i k hk1
    split at h
    ·rename_i k' n he
     refine ⟨_, _, h, fun τ K' hs hr hw hk => ?_⟩
     simp -implicitDefEqProofs -dsimp [Op.operands] at hs
     simp only [wpo, hS, hT, hk1, hs, he]; exact hk
    ·rename_i he
     obtain ⟨hg, h⟩ := h
     refine ⟨_, _, h, fun τ K' hs hr hw hk => ?_⟩
     simp -implicitDefEqProofs -dsimp [Op.operands] at hs
     simp only [wpo, hS, hT, hk1, hs, he]; exact ⟨hg, hk⟩
    ·exact h.elim
   ·rename_i hk1
    split at h
    ·rename_i k' n he
     refine ⟨_, _, h, fun τ K' hs hr hw hk => ?_⟩
     simp -implicitDefEqProofs -dsimp [Op.operands] at hs
     simp only [wpo, hS, hT, hk1, hs, he]; exact hk
    ·rename_i s' he
     refine ⟨_, _, h, fun τ K' hs hr hw hk => ?_⟩
     simp -implicitDefEqProofs -dsimp [Op.operands] at hs
     simp only [wpo, hS, hT, hk1, hs, he]; exact hk
    ·rename_i hni hns
     split at h
     ·rename_i e Te xs rd hsl hl
      obtain ⟨h1, h2, h⟩ := h
      refine ⟨_, _, h, fun τ K' hs hr hw hk => ?_⟩
      simp -implicitDefEqProofs -dsimp [Op.operands] at hs
      simp only [wpo, hS, hT, hk1, hs, hsl, hlv τ _ _ _ hl hr]
      exact ⟨h1, h2, hk⟩
     ·exact h.elim
   ·rename_i hk1
    split at h
    ·rename_i s' e Te he hsl
     split at h
     ·obtain ⟨h1, h2, h3, h⟩ := h
      refine ⟨_, _, h, fun τ K' hs hr hw hk => ?_⟩
      simp -implicitDefEqProofs -dsimp [Op.operands] at hs
      simp only [wpo, hS, hT, hk1, hs, he, hsl]; exact ⟨h1, h2, h3, hk⟩
     ·exact h.elim
    ·exact h.elim
   ·exact h.elim
  ·exact h.elim
 case indexAddr t x i =>
  simp only [wpo] at h
  split at h
  ·rename_i k n hei
   split at h
   ·rename_i xs he
    split at h
    ·rename_i e Te hT
     refine ⟨_, _, h.2, fun τ K' hs hr hw hk => ?_⟩
     simp -implicitDefEqProofs -dsimp [Op.operands] at hs
     simp only [wpo, hs.1, hs.2, hei, he, hT]; exact ⟨h.1, hk⟩
    ·exact h.elim
   ·rename_i p q he
    split at h
    ·rename_i dd e xs e' Te hb hT
     refine ⟨_, _, h.2, fun τ K' hs hr hw hk => ?_⟩
     simp -implicitDefEqProofs -dsimp [Op.operands] at hs
     simp only [wpo, hs.1, hs.2, hei, he, hT, hr (.r p q) (by simp -implicitDefEqProofs -dsimp), hb]; exact ⟨h.1, hk⟩
    ·rename_i xs e' Te hb hT
     refine ⟨_, _, h.2, fun τ K' hs hr hw hk => ?_⟩
     simp -implicitDefEqProofs -dsimp [Op.operands] at hs
     simp only [wpo, hs.1, hs.2, hei, he, hT, hr (.r p q) (by simp -implicitDefEqProofs -dsimp), hb]; exact ⟨h.1, hk⟩
    ·exact h.elim
   ·rename_i b o he
    split at h
    ·rename_i m e Te hT
     refine ⟨_, _, h.2, fun τ K' hs hr hw hk => ?_⟩
     simp -implicitDefEqProofs -dsimp [Op.operands] at hs
     simp only [wpo, hs.1, hs.2, hei, he, hT]; exact ⟨h.1, hk⟩
    ·exact h.elim
   ·exact h.elim
  ·rename_i he
   obtain ⟨hg, h⟩ := h
   refine ⟨_, _, h, fun τ K' hs hr hw hk => ?_⟩
   simp -implicitDefEqProofs -dsimp [Op.operands] at hs
   simp only [wpo, hs, he]; exact ⟨hg, hk⟩
  ·exact h.elim
 all_goals first | exact at_simple h trivial | (simp only [wpo] at h)
end
end Go.Proofs.YtlfblkekbcfjpaaGreatDoor
namespace Go.Proofs.YtlfblkekbcfjpaaGreatDoor
open Go.RowKit
section
variable {C : Ctx} {E : Env} {cb : Comp → Option Nat} {Fc : Comp → List Nat} {σ : St} {w : World} {a : Act} {xs ys : List V}
theorem Sim.re (h : Sim C E cb Fc σ w a) {us : Array Value} (hval : ∀ i, i < ys.length → ∃ F, R (xs.getD i .un) E F (us.getD i undef)) (hp : passL C.P σ xs ys)
  (hn1 : ((og σ xs ys).map (·.1)).Nodup) (hn2 : ((og σ xs ys).map (·.2)).Nodup) (hln : ∀ c ∈ ln σ xs ys, c ∉ (og σ xs ys).map (·.2))
  (hmu : ∀ i g, C.μ0 i = some g → i < ys.length ∧ (∃ b o zs, xs.getD i .un = .pt b o ∧ ys.getD i .un = .blk zs ∧ E.μ b = some g)) : Held C (inSt ys) w ⟨us, []⟩ := by
 have h1 := h.callIn hval hp hn1 hn2 hln
 have hlt : ∀ c y, y ∈ exc (inSt ys c) ((lk (og σ xs ys) c).bind cb) (match lk (og σ xs ys) c with | some c0 => Fc c0 | none => []) → (C.w0.heap.size ≤ y ∨ y ∈ C.X) ∧ y < w.heap.size := fun c y hy => by
  rcases (h1.new c y hy).1 with h2 | h2
  ·have := (h1.new c y hy).2
   have h2 : w.heap.size ≤ y := h2
   omega
  ·obtain ⟨c0, _, h4⟩ := List.mem_flatMap.1 (show y ∈ inX σ cb Fc xs ys from h2)
   exact h.new c0 y h4
 refine ⟨_, _, _, ⟨fun b o v e => h1.phi0 b o v ((fz_le h _).1 b o v (h.phi0 b o v e)), h1.frz, fun b o v e => ?_, h1.loc, h1.tmp, h1.mem, h1.out, h1.dis, h1.nod, hlt, h.os, h.tape, h.output, h.size, h.old, rfl, fun i g hi => ?_, h.tab⟩⟩
 ·rcases h1.grow b o v e with h2 | h2 | h2
  ·have h2 : (E.fz w cb (ln σ xs ys)).Φ b o = some v := h2
   simp only [Env.fz] at h2
   split at h2
   ·rename_i hany
    obtain ⟨c, _, h6⟩ := any_cb.1 hany
    exact .inr (h.new c b (mem_exc h6)).1
   ·exact h.grow b o v h2
  ·have h2 : w.heap.size ≤ b := h2
   exact .inr (.inl (Nat.le_trans h.size h2))
  ·obtain ⟨c0, _, h4⟩ := List.mem_flatMap.1 (show b ∈ inX σ cb Fc xs ys from h2)
   exact .inr (h.new c0 b h4).1
 ·obtain ⟨h2, b, o, zs, h3, h4, h5⟩ := hmu i g hi
  refine ⟨(h.mu0 i g hi).1, ?_, ?_⟩
  ·simp only [inSt, h4]; simp -implicitDefEqProofs -dsimp
  ·simp only [inEnv]
   rw [lk_of hn1 (og_blk h2 h3 h4)]; exact h5
end
end Go.Proofs.YtlfblkekbcfjpaaGreatDoor
