/- Part of a proof: contracts and plain laws. -/
import Derived.Test.YtlfblkekbcfjpaaGreatDoorZ02
import Derived.Lib.ConvBytes
set_option linter.unusedVariables false
set_option linter.unusedSimpArgs false
namespace Go.Proofs.YtlfblkekbcfjpaaGreatDoor
open Go.RowKit
theorem Els.append : ∀ {xs ys : List V} {E : Env} {F G : List Nat} {vs us : List Value} {k : Nat}, Els xs E F vs k → Els ys E G us k → Els (xs ++ ys) E (F ++ G) (vs ++ us) k
 | [], _, _, _, _, _, _, _, h, h' => by unfold Els at h; obtain ⟨rfl, rfl⟩ := h; exact h'
 | x :: xs, _, _, _, _, _, _, _, h, h' => by
  unfold Els at h
  obtain ⟨F1, F2, v, ws, rfl, rfl, h3, h4, h5, h6⟩ := h
  simp only [List.cons_append]; unfold Els
  exact ⟨F1, F2 ++ _, v, ws ++ _, by rw [List.append_assoc], by rw [List.append_assoc], h3, h4, h5, h6.append h'⟩
theorem Els.split : ∀ {xs ys : List V} {E : Env} {F : List Nat} {vs : List Value} {k : Nat}, Els (xs ++ ys) E F vs k → ∃ F1 F2 v1 v2, F = F1 ++ F2 ∧ vs = v1 ++ v2 ∧ Els xs E F1 v1 k ∧ Els ys E F2 v2 k
 | [], _, _, F, vs, _, h => ⟨[], F, [], vs, rfl, rfl, by unfold Els; exact ⟨rfl, rfl⟩, h⟩
 | x :: xs, ys, _, _, _, _, h => by
  simp only [List.cons_append] at h; unfold Els at h
  obtain ⟨F1, F2, v, ws, rfl, rfl, h3, h4, h5, h6⟩ := h
  obtain ⟨G1, G2, v1, v2, rfl, rfl, h7, h8⟩ := Els.split h6
  exact ⟨F1 ++ G1, G2, v.cells.toList ++ v1, v2, by rw [List.append_assoc], by rw [List.append_assoc], by unfold Els; exact ⟨F1, G1, v, v1, rfl, rfl, h3, h4, h5, h7⟩, h8⟩
theorem R_sl_cut {E : Env} {xs : List V} {F : List Nat} {A : Option Addr} {n c : Nat} (hx : R (.sl xs) E F (.slice A n c)) {l h s : Nat} (hl : l ≤ h) (hh : h ≤ xs.length) (hw : ∀ x ∈ xs, x.ok = true ∧ x.cs.length = s) :
  ∃ F', R (.sl ((xs.take h).drop l)) E F' (.slice (if c = l then A else A.map (·.add (l * s))) (h - l) (c - l)) := by
 unfold R at hx
 obtain ⟨A, c, hv, h1, h2, h3⟩ := hx
 simp only [Value.slice.injEq] at hv
 obtain ⟨rfl, rfl, rfl⟩ := hv
 have hlen : ((xs.take h).drop l).length = h - l := by rw [List.length_drop, List.length_take]; omega
 by_cases he : h = l
 ·subst he
  have : (xs.take h).drop h = [] := List.drop_eq_nil_of_le (by rw [List.length_take]; omega)
  refine ⟨[], ?_⟩
  rw [this]; unfold R
  refine ⟨_, _, by rw [Nat.sub_self]; rfl, Nat.zero_le _, by omega, .inl ⟨rfl, rfl, fun hn => ?_⟩⟩
  split at hn
  ·omega
  ·cases A with
   | none =>
    rcases h3 with ⟨_, _, h5⟩ | ⟨b, off, F', vs, k, h5, _⟩
    ·have := h5 rfl; omega
    ·cases h5
   | some x => cases hn
 ·rcases h3 with ⟨rfl, _⟩ | ⟨b, off, F', vs, k, rfl, _, h4, h5⟩
  ·simp at hh; omega
  ·have hne : c ≠ l := by omega
   rw [if_neg hne]
   have hk : k = s := by
    obtain ⟨F'', u, h6, h7, _⟩ := h5.get l (by omega)
    have hm : xs.getD l .un ∈ xs := by simp -implicitDefEqProofs -dsimp [List.getD, show l < xs.length by omega]
    have h8 := hw _ hm
    rw [← h7, ← h8.2, ← (R_cs h6 h8.1).len]; simp -implicitDefEqProofs -dsimp
   subst hk
   have e1 : xs = xs.take l ++ ((xs.take h).drop l ++ xs.drop h) := by
    have : (xs.take h).drop l ++ xs.drop h = xs.drop l := by
     conv => rhs; rw [← List.take_append_drop h xs, List.drop_append_of_le_length (by rw [List.length_take]; omega)]
    rw [this, List.take_append_drop]
   rw [e1] at h5
   obtain ⟨F1, F2, v1, v2, _, rfl, h6, h7⟩ := h5.split
   obtain ⟨F3, F4, v3, v4, _, rfl, h8, h9⟩ := h7.split
   have hl1 : v1.length = l * k := by rw [h6.len, List.length_take]; congr 1; omega
   refine ⟨b :: F3, ?_⟩
   unfold R
   refine ⟨_, c - l, by rw [hlen], by rw [hlen]; omega, by omega, .inr ⟨b, off + l * k, F3, v3, k, by simp -implicitDefEqProofs -dsimp [Addr.add_plain], rfl, fun j u hj => ?_, h8⟩⟩
   rw [Nat.add_assoc]
   refine h4 _ _ ?_
   rw [← hl1, List.getElem?_append_right (Nat.le_add_right _ _), Nat.add_sub_cancel_left, List.getElem?_append_left (List.getElem?_eq_some_iff.1 hj).1]
   exact hj
section
variable {C : Ctx} {E : Env} {cb : Comp → Option Nat} {Fc : Comp → List Nat} {σ : St} {w : World} {a : Act}
theorem Sim.freeze (h : Sim C E cb Fc σ w a) {i j : Nat} {d : Bool} {e : TypeId} {xs : List V} (hb : σ (.r i j) = .row d e xs) :
  ∃ E' cb' Fc', E.le E' ∧ (∀ c, c ≠ .r i j → cb' c = cb c ∧ Fc' c = Fc c) ∧ E'.ρ = E.ρ ∧ E'.μ = E.μ ∧ Sim C E' cb' Fc' (upd σ (.r i j) (.sl xs)) w a := by
 obtain ⟨u, vs, k, A, c, h1, rfl, hinf, hk0, hown, hels, hcb, h2, h3, h4, hA, _⟩ := h.row hb
 have hlt : ∀ gb, cb (.r i j) = some gb → ∀ o v, E.Φ gb o ≠ some v := fun gb hg o v e => by have := h.out _ gb hg o; rw [e] at this; cases this
 let E' : Env := { E with Φ := fun b o => if cb (.r i j) = some b then vs[o]? else E.Φ b o }
 have hE : E.le E' := ⟨fun b o v e => by
  simp only [E']; split
  ·rename_i hc; exact absurd e (hlt _ hc o v)
  ·exact e, fun _ _ h => h, fun _ _ _ h => h, fun h => h⟩
 refine ⟨E', upd cb (.r i j) none, upd Fc (.r i j) [], hE, fun c hc => ⟨upd_ne _ _ hc, upd_ne _ _ hc⟩, rfl, rfl, ?_⟩
 have hρ : ∃ F, R (.sl xs) E' F (.slice A xs.length c) := by
  cases A with
  | none =>
   have hc := h4 rfl
   refine ⟨[], ?_⟩
   unfold R
   exact ⟨none, c, rfl, h2, h3, .inl ⟨List.length_eq_zero_iff.1 (by omega), rfl, fun _ => hc⟩⟩
  | some x =>
   obtain ⟨gb, rfl, hcell⟩ := hA _ rfl
   refine ⟨gb :: Fc (.r i j), ?_⟩
   unfold R
   exact ⟨_, c, rfl, h2, h3, .inr ⟨gb, 0, _, vs, k, rfl, rfl, fun q u hq => by
    simp only [E', hcb, Value.ownBlock, if_true, Nat.zero_add]; exact hq, Els.mono hE.dat _ hels⟩⟩
 obtain ⟨FF, hρ⟩ := hρ
 have hsl : (upd Fc (.r i j) FF) = (upd Fc (.r i j) FF) := rfl
 refine h.gen (Fc' := upd Fc (.r i j) []) [.r i j] ?_ ?_ hE ?_ ?_ ?_ (fun b o v e => by
  simp only [E'] at e
  split at e
  ·rename_i hc; exact .inr (h.new _ b (mem_exc hc)).1
  ·exact .inl e) ?_ (Nat.le_refl _) rfl rfl rfl ?_ ?_ ?_ ?_ ?_ ?_ h.dfr (fun i hi => by simp at hi)
 ·intro c hc hct
  have hc' : c ≠ .r i j := fun e => hc (by simp -implicitDefEqProofs -dsimp [e])
  rw [upd_ne _ _ hc', upd_ne _ _ hc', upd_ne _ _ hc']
  exact ⟨rfl, rfl, rfl⟩
 ·intro q
  rw [upd_ne _ _ (by simp -implicitDefEqProofs -dsimp), upd_ne _ _ (by simp -implicitDefEqProofs -dsimp)]; exact h.cbt q
 ·intro q _ hn; exact hn
 ·intro q r _ hn; exact hn
 ·intro b o v e
  simp only [E'] at e
  split at e
  ·rename_i hc
   rw [hcb] at hc
   cases A with
   | none => cases hc
   | some x =>
    obtain ⟨gb, rfl, hcell⟩ := hA _ rfl
    obtain rfl := Option.some.inj hc
    exact hcell o v e
  ·exact h.frz b o v e
 ·intro _ _ _; rfl
 ·intro q
  rw [upd_ne _ _ (by simp -implicitDefEqProofs -dsimp)]
  obtain ⟨F, h5⟩ := h.tmp q
  exact ⟨F, R.mono hE _ h5⟩
 ·intro c' hc'
  simp only [List.mem_singleton] at hc'
  subst hc'
  rw [upd_self, upd_self, upd_self]
  exact ⟨rfl, _, h1, FF, hρ⟩
 ·intro c' gb hc' o
  by_cases e : c' = .r i j
  ·subst e; rw [upd_self] at hc'; cases hc'
  ·rw [upd_ne _ _ e] at hc'
   simp only [E']
   split
   ·rename_i hc
    exact absurd (mem_exc hc) (h.dis c' (.r i j) e gb (mem_exc hc'))
   ·exact h.out c' gb hc' o
 ·intro c' hc' y hy
  simp only [List.mem_singleton] at hc'
  subst hc'
  rw [upd_self, upd_self, upd_self] at hy
  simp -implicitDefEqProofs -dsimp [exc, deep] at hy
 ·intro c' hc' c'' hc'' hne
  simp only [List.mem_singleton] at hc' hc''
  exact absurd (hc'.trans hc''.symm) hne
 ·intro c' hc'
  simp only [List.mem_singleton] at hc'
  subst hc'
  rw [upd_self, upd_self, upd_self]
  simp -implicitDefEqProofs -dsimp [exc, deep]
end
end Go.Proofs.YtlfblkekbcfjpaaGreatDoor
namespace Go.Proofs.YtlfblkekbcfjpaaGreatDoor
open Go.RowKit
section
variable {C : Ctx} {E : Env} {cb : Comp → Option Nat} {Fc : Comp → List Nat} {σ : St} {w : World} {a : Act}
variable {P : Program} {g : Prop} {K : List (Comp × V) → List Comp → Prop} {next : Act → World → Prop} {Q : Exit → Act → World → Prop}
variable {dst : Option Tmp} {ty : TypeId} {pos : String} {after : Array Edge} {guard : Option (Nat × Bool)}
theorem run_sliceBound {k : IntKind} {i : Int} {y : Nat} (code : BoundsCode) (h0 : 0 ≤ i) (h1 : i ≤ y) (w : World) : (Instr.sliceBound (.int k i) y code).run P w = .ok i.toNat w := by
 simp only [Instr.sliceBound, asIntOf, Sem.run_bind, Sem.run_pure, Result.andThen_ok, h0, h1, and_self, if_true]
theorem sim_cut (h : Sim C E cb Fc σ w a) {n : Nat} {lo hi : Option Operand} {Kc : Prop → Nat → Nat → Prop} (hc : cutV n g (lo.map (sop σ)) (hi.map (sop σ)) Kc) :
  ∃ c l u, Kc c l u ∧ (c → l ≤ u ∧ u ≤ n ∧ ∀ (b : Bool) (cap : Nat), n ≤ cap → (Instr.sliceBounds b n cap (lo.map a.eval) (hi.map a.eval) none).run P w = .ok (l, u, cap) w) := by
 unfold cutV at hc
 split at hc
 ·rename_i h1 h2
  have h1 : lo = none := by cases lo <;> simp_all
  have h2 : hi = none := by cases hi <;> simp_all
  subst h1 h2
  exact ⟨_, _, _, hc, fun _ => ⟨Nat.zero_le _, Nat.le_refl _, fun b cap _ => by simp -implicitDefEqProofs -dsimp [Instr.sliceBounds]⟩⟩
 ·rename_i k l h1 h2
  cases lo with
  | none => simp at h1
  | some x =>
   have h2 : hi = none := by cases hi <;> simp_all
   subst h2
   simp only [Option.map_some, Option.some.injEq] at h1
   obtain ⟨F, hx⟩ := h.sop x
   rw [h1] at hx
   have hx := R_sc hx
   refine ⟨_, _, _, hc, fun hh => ⟨by omega, Nat.le_refl _, fun b cap _ => ?_⟩⟩
   have := run_sliceBound (P := P) (k := k) .sliceB hh.1 hh.2 w
   simp -implicitDefEqProofs -dsimp [Instr.sliceBounds, hx, this]
 ·rename_i k l h1 h2
  cases hi with
  | none => simp at h2
  | some x =>
   have h1 : lo = none := by cases lo <;> simp_all
   subst h1
   simp only [Option.map_some, Option.some.injEq] at h2
   obtain ⟨F, hx⟩ := h.sop x
   rw [h2] at hx
   have hx := R_sc hx
   refine ⟨_, _, _, hc, fun hh => ⟨Nat.zero_le _, by omega, fun b cap hcap => ?_⟩⟩
   have := fun code => run_sliceBound (P := P) (k := k) (i := l) (y := cap) code hh.1 (by omega) w
   cases b <;> simp -implicitDefEqProofs -dsimp [Instr.sliceBounds, hx, this]
 ·rename_i k l k' u h1 h2
  cases lo with
  | none => simp at h1
  | some x =>
   cases hi with
   | none => simp at h2
   | some y =>
    simp only [Option.map_some, Option.some.injEq] at h1 h2
    obtain ⟨F, hx⟩ := h.sop x
    rw [h1] at hx
    have hx := R_sc hx
    obtain ⟨F2, hy⟩ := h.sop y
    rw [h2] at hy
    have hy := R_sc hy
    refine ⟨_, _, _, hc, fun hh => ⟨by omega, by omega, fun b cap hcap => ?_⟩⟩
    have h3 := fun code => run_sliceBound (P := P) (k := k') (i := u) (y := cap) code (by omega) (by omega) w
    have h4 := run_sliceBound (P := P) (k := k) (i := l) (y := u.toNat) .sliceB hh.1 (by omega) w
    cases b <;> simp -implicitDefEqProofs -dsimp [Instr.sliceBounds, hx, hy, h3, h4]
 ·exact hc.elim
theorem run_sliceAt_sl {t e : TypeId} {Te : TD} (ht : P.underlying t = some (.slice e)) (hTe : TyOk P e Te) {A : Option Addr} {n c l u : Nat} {lo hi : Option Value} (w : World)
  (hb : (Instr.sliceBounds true n c lo hi none).run P w = .ok (l, u, c) w) : (Instr.sliceAt t (.slice A n c) lo hi none).run P w = .ok (.slice (if c = l then A else A.map (·.add (l * Te.sz))) (u - l) (c - l)) w := by
 simp -implicitDefEqProofs -dsimp [Instr.sliceAt, Instr.slice, run_underlying ht, hb, hTe.size w]
theorem so_slice (h : Sim C E cb Fc σ w a) (hg : g) (hd : okd a.tmps.size dst) (hn : Next C σ a K next) (t : TypeId) (x : Operand) (lo hi : Option Operand) (hk : wpo P g (.slice t x lo hi none) dst σ K) : (Oper.mk dst (.slice t x lo hi none) ty pos after guard).wp P a w next Q := by
 simp only [wpo] at hk
 obtain ⟨F, hx⟩ := h.sop x
 have hex : ∀ v, (Instr.sliceAt t (a.eval x) (lo.map a.eval) (hi.map a.eval) none).run P w = .ok v w → (execOp a.eval ⟨dst, .slice t x lo hi none, ty, pos, after, guard⟩).run P w = .ok (.value v) w := fun v hv => by simp -implicitDefEqProofs -dsimp [execOp, hv]
 split at hk
 ·rename_i s he
  rw [he] at hx
  have hx := R_sc hx
  obtain ⟨hT, hk⟩ := hk
  obtain ⟨c, l, u, ⟨hc, hk⟩, hb⟩ := sim_cut (P := P) h hk
  obtain ⟨h1, h2, hb⟩ := hb (hc hg)
  refine so_val h hd hn (hex _ ?_) (R_sc_mk rfl) hk
  have := hb false s.size (Nat.le_refl _)
  simp -implicitDefEqProofs -dsimp [Instr.sliceAt, Instr.slice, run_underlying (isStr_ok hT), hx, this]
 ·rename_i xs he
  rw [he] at hx
  split at hk
  ·rename_i e Te hT
   obtain ⟨hw, hk⟩ := hk
   obtain ⟨c, l, u, ⟨hc, hk⟩, hb⟩ := sim_cut (P := P) h hk
   obtain ⟨h1, h2, hb⟩ := hb (hc hg)
   have hx' := hx
   unfold R at hx'
   obtain ⟨A, cap, hv, h3, _⟩ := hx'
   rw [hv] at hx
   obtain ⟨F', h4⟩ := R_sl_cut hx h1 h2 (hw hg)
   refine so_val h hd hn (hex _ ?_) h4 hk
   rw [hv]
   exact run_sliceAt_sl (slTy_ok hT).1 (slTy_ok hT).2 w (hb true cap h3)
  ·exact hk.elim
 ·rename_i i j he
  rw [he] at hx
  have hx' := hx
  unfold R at hx'
  obtain ⟨_, _, hρ, _⟩ := hx'
  split at hk
  ·rename_i d e' xs e Te hr hT
   obtain ⟨hw, hk⟩ := hk
   obtain ⟨c, l, u, ⟨_, hc, hk⟩, hb⟩ := sim_cut (P := P) h hk
   obtain ⟨h1, h2, hb⟩ := hb hc
   obtain ⟨E', cb', Fc', hE, _, hρ', _, h'⟩ := h.freeze hr
   have h5 := h'.mem (.r i j)
   rw [upd_self] at h5
   obtain ⟨_, v, h6, F6, h7⟩ := h5
   rw [hρ'] at h6
   have h8 := Option.some.inj (hρ.symm.trans h6)
   have h7' := h7
   unfold R at h7'
   obtain ⟨A, cap, hv, h9, _⟩ := h7'
   rw [hv] at h7
   obtain ⟨F', h4⟩ := R_sl_cut h7 h1 h2 hw
   refine h'.val (hex _ ?_) h4 hd fun a' hh hs => hn _ _ a' w hk ?_ hs
   ·rw [h8, hv]
    exact run_sliceAt_sl (slTy_ok hT).1 (slTy_ok hT).2 w (hb true cap h9)
   ·exact hh
  ·rename_i xs e Te hr hT
   obtain ⟨hw, hk⟩ := hk
   obtain ⟨c, l, u, ⟨hc, hk⟩, hb⟩ := sim_cut (P := P) h hk
   obtain ⟨h1, h2, hb⟩ := hb (hc hg)
   have h5 := h.mem (.r i j)
   rw [hr] at h5
   obtain ⟨_, v, h6, F6, h7⟩ := h5
   have h8 := Option.some.inj (hρ.symm.trans h6)
   have h7' := h7
   unfold R at h7'
   obtain ⟨A, cap, hv, h9, _⟩ := h7'
   rw [hv] at h7
   obtain ⟨F', h4⟩ := R_sl_cut h7 h1 h2 (hw hg)
   refine so_val h hd hn (hex _ ?_) h4 hk
   rw [h8, hv]
   exact run_sliceAt_sl (slTy_ok hT).1 (slTy_ok hT).2 w (hb true cap h9)
  ·exact hk.elim
 ·exact hk.elim
theorem so_slice3 (h : Sim C E cb Fc σ w a) (hg : g) (hd : okd a.tmps.size dst) (hn : Next C σ a K next) (t : TypeId) (x hi mx : Operand) (hk : wpo P g (.slice t x none (some hi) (some mx)) dst σ K) : (Oper.mk dst (.slice t x none (some hi) (some mx)) ty pos after guard).wp P a w next Q := by
 simp only [wpo] at hk
 obtain ⟨F, hx⟩ := h.sop x
 obtain ⟨F1, hx1⟩ := h.sop hi
 obtain ⟨F2, hx2⟩ := h.sop mx
 have hex : ∀ v, (Instr.sliceAt t (a.eval x) none (some (a.eval hi)) (some (a.eval mx))).run P w = .ok v w → (execOp a.eval ⟨dst, .slice t x none (some hi) (some mx), ty, pos, after, guard⟩).run P w = .ok (.value v) w := fun v hv => by simp -implicitDefEqProofs -dsimp [execOp, hv]
 split at hk
 ·rename_i xs k1 a1 k2 a2 p e1 e2 e3 hT
  obtain ⟨e, Te⟩ := p
  rw [e1] at hx; rw [e2] at hx1; rw [e3] at hx2
  obtain ⟨rfl, rfl, hk⟩ := hk
  have hx1 := R_sc hx1
  have hx2 := R_sc hx2
  have hx' := hx
  unfold R at hx'
  obtain ⟨A, cap, hv, h3, h4, h5⟩ := hx'
  have hval : R (.sl xs) E F (.slice (if xs.length = 0 then A else A.map (·.add (0 * Te.sz))) (xs.length - 0) (xs.length - 0)) := by
   unfold R
   refine ⟨_, _, rfl, Nat.le_refl _, by omega, ?_⟩
   rcases h5 with ⟨rfl, h6, h7⟩ | ⟨b, off, F', vs, k, h6, h7, h8, h9⟩
   ·exact .inl ⟨rfl, h6, fun _ => rfl⟩
   ·by_cases h0 : xs.length = 0
    ·refine .inr ⟨b, off, F', vs, k, by rw [if_pos h0]; exact h6, h7, h8, h9⟩
    ·refine .inr ⟨b, off, F', vs, k, by rw [if_neg h0, h6]; simp -implicitDefEqProofs -dsimp [Addr.add], h7, h8, h9⟩
  refine so_val h hd hn (hex _ ?_) hval hk
  rw [hv, hx1, hx2]
  have b1 := run_sliceBound (P := P) (k := k2) (i := (xs.length : Int)) (y := cap) .slice3Acap (by omega) (by omega) w
  have b2 := run_sliceBound (P := P) (k := k1) (i := (xs.length : Int)) (y := xs.length) .slice3B (by omega) (by omega) w
  simp -implicitDefEqProofs -dsimp [Instr.sliceAt, Instr.slice, Instr.sliceBounds, run_underlying (slTy_ok hT).1, b1, b2, (slTy_ok hT).2.size w]
 ·exact hk.elim
end
end Go.Proofs.YtlfblkekbcfjpaaGreatDoor
namespace Go.Proofs.YtlfblkekbcfjpaaGreatDoor
open Go.RowKit
def bval (b : UInt8) : Value := .int .u8 (b.toNat : Int)
theorem Els_bytes (E : Env) : ∀ bs : List UInt8, Els (bs.map bv) E [] (bs.map bval) 1
 | [] => by simp only [List.map_nil]; unfold Els; exact ⟨rfl, rfl⟩
 | b :: bs => by
  simp only [List.map_cons]; unfold Els
  exact ⟨[], [], bval b, bs.map bval, rfl, rfl, R_sc_mk rfl, rfl, fun u hu => by simp -implicitDefEqProofs -dsimp [Value.cells, bval] at hu; subst hu; rfl, Els_bytes E bs⟩
def ofI (n : Int) : UInt8 := UInt8.ofNat n.toNat
theorem Els_isByte {E : Env} : ∀ {xs : List V} {F : List Nat} {vs : List Value} {k : Nat}, Els xs E F vs k → xs.all isByte = true → ∃ ns : List Int, vs = ns.map (Value.int .u8) ∧ toBA xs = ⟨(ns.map ofI).toArray⟩ ∧ (xs ≠ [] → k = 1)
 | [], _, _, _, h, _ => by unfold Els at h; obtain ⟨_, rfl⟩ := h; exact ⟨[], rfl, rfl, fun h => absurd rfl h⟩
 | x :: xs, _, _, k, h, hb => by
  unfold Els at h
  obtain ⟨F1, F2, v, ws, rfl, rfl, h3, h4, h5, h6⟩ := h
  simp only [List.all_cons, Bool.and_eq_true] at hb
  obtain ⟨ns, rfl, h7, _⟩ := Els_isByte h6 hb.2
  have h8 := hb.1
  unfold isByte at h8
  split at h8
  ·rename_i n
   obtain rfl := R_sc h3
   refine ⟨n :: ns, rfl, ?_, fun _ => h4.symm⟩
   unfold toBA at h7 ⊢
   simp only [ByteArray.mk.injEq] at h7
   have h9 := congrArg Array.toList h7
   simp only [List.map_cons, List.toList_toArray] at h9 ⊢
   rw [h9]; rfl
  ·cases h8
theorem foldl_push (ns : List Int) : ∀ s : ByteArray, ns.foldl (fun r n => r.push (UInt8.ofNat n.toNat)) s = ⟨s.data ++ (ns.map ofI).toArray⟩ := by
 induction ns with
 | nil => intro s; simp -implicitDefEqProofs -dsimp
 | cons n ns ih =>
  intro s
  simp only [List.foldl_cons, ih]
  congr 1
  apply Array.ext'
  simp -implicitDefEqProofs -dsimp [ByteArray.push, ofI]
theorem foldl_set (vs : List Value) : ∀ (o : Nat) (cells : Array Value), o + vs.length ≤ cells.size →
  ((vs.zipIdx 0).foldl (fun cs (c, j) => cs.setIfInBounds (o + j) c) cells).toList = cells.toList.take o ++ vs ++ cells.toList.drop (o + vs.length) := by
 suffices H : ∀ (vs : List Value) (i o : Nat) (cells : Array Value), o + i + vs.length ≤ cells.size →
   ((vs.zipIdx i).foldl (fun cs (c, j) => cs.setIfInBounds (o + j) c) cells).toList = cells.toList.take (o + i) ++ vs ++ cells.toList.drop (o + i + vs.length) from fun o cells h => by simpa using H vs 0 o cells (by simpa using h)
 intro vs
 induction vs with
 | nil => intro i o cells _; simp -implicitDefEqProofs -dsimp
 | cons v vs ih =>
  intro i o cells h
  simp only [List.length_cons] at h
  simp only [List.zipIdx_cons, List.foldl_cons]
  rw [ih (i + 1) o _ (by simp -implicitDefEqProofs -dsimp; omega)]
  have hlt : o + i < cells.toList.length := by simp only [Array.length_toList]; omega
  have e1 : cells.toList.set (o + i) v = cells.toList.take (o + i) ++ v :: cells.toList.drop (o + i + 1) := by rw [List.set_eq_take_append_cons_drop, if_pos hlt]
  have e2 : (cells.toList.take (o + i)).length = o + i := by rw [List.length_take]; omega
  have e3 : ((cells.toList.take (o + i)) ++ [v]).length = o + (i + 1) := by rw [List.length_append, e2]; rfl
  rw [Array.toList_setIfInBounds, e1, show cells.toList.take (o + i) ++ v :: cells.toList.drop (o + i + 1) = (cells.toList.take (o + i) ++ [v]) ++ cells.toList.drop (o + i + 1) by simp]
  rw [List.take_left' e3, List.drop_append, e3, List.drop_eq_nil_of_le (by rw [e3]; omega), List.drop_drop]
  simp only [List.length_cons, List.nil_append, List.append_assoc, List.cons_append]
  congr 4
  omega
section
variable {C : Ctx} {E : Env} {cb : Comp → Option Nat} {Fc : Comp → List Nat} {σ : St} {w : World} {a : Act}
variable {P : Program} {g : Prop} {K : List (Comp × V) → List Comp → Prop} {next : Act → World → Prop} {Q : Exit → Act → World → Prop}
variable {dst : Option Tmp} {ty : TypeId} {pos : String} {after : Array Edge} {guard : Option (Nat × Bool)}
theorem bld_fill (h : Sim C E cb Fc σ w a) {fs : List (Nat × Bool × Nat)} {place : Nat → Option (Nat × Nat)} (hp : ∀ i o ag s, fs[i]? = some (o, ag, s) → place i = some (o, s)) :
  ∀ (ps : List (Nat × Operand)) (cs : List V) (cells : Array Value) (F : List Nat) {cs' : List V}, Rs cs E F cells.toList → bld fs cs (ps.map fun p => (p.1, sop σ p.2)) = some cs' →
   ∃ cells' F', Instr.fill place cells (ps.map fun p => (p.1, a.eval p.2)) = some cells' ∧ Rs cs' E F' cells'.toList
 | [], cs, cells, F, cs', hcs, hb => by
  simp only [List.map_nil, bld, Option.some.injEq] at hb
  subst hb
  exact ⟨cells, F, rfl, hcs⟩
 | p :: ps, cs, cells, F, cs', hcs, hb => by
  simp only [List.map_cons, bld] at hb
  split at hb
  ·rename_i o ag s hf
   split at hb
   ·rename_i hc
    simp only [Bool.and_eq_true, beq_iff_eq, decide_eq_true_eq] at hc
    obtain ⟨hok, hlen, hs⟩ := hc
    obtain ⟨F1, hx⟩ := h.sop p.2
    have hxc := R_cs hx hok
    have hsz : (a.eval p.2).cells.size = s := by rw [← hlen, ← hxc.len]; simp -implicitDefEqProofs -dsimp
    have hl : cells.size = cs.length := by rw [← hcs.len]; simp -implicitDefEqProofs -dsimp
    have hnew := foldl_set (a.eval p.2).cells.toList o cells (by simp only [Array.length_toList]; omega)
    obtain ⟨G1, hG1⟩ := hcs.take o
    obtain ⟨G2, hG2⟩ := hcs.drop (o + (sop σ p.2).cs.length)
    obtain ⟨cells', F', h1, h2⟩ := bld_fill h hp ps (splc cs o (sop σ p.2).cs) (((a.eval p.2).cells.zipIdx).foldl (fun cs (c, j) => cs.setIfInBounds (o + j) c) cells) (G1 ++ F1 ++ G2) (by
     rw [← Array.foldl_toList, Array.toList_zipIdx, hnew]
     unfold splc
     rw [hlen] at hG2 ⊢
     simp only [Array.length_toList, hsz]
     exact (hG1.append hxc).append hG2) hb
    refine ⟨cells', F', ?_, h2⟩
    simp only [List.map_cons, Instr.fill, hp _ _ _ _ hf, hsz, hl]
    simp only [ne_eq, not_true_eq_false, decide_false, Bool.false_or, gt_iff_lt, show ¬ cs.length < o + s by omega, decide_false, Bool.false_eq_true, if_false]
    exact h1
   ·cases hb
  ·cases hb
end
end Go.Proofs.YtlfblkekbcfjpaaGreatDoor
namespace Go.Proofs.YtlfblkekbcfjpaaGreatDoor
open Go.RowKit
theorem places_mapM {P : Program} : ∀ fs : List Field, (∀ f ∈ fs, fsz P f.type ≠ 0) → fs.mapM (fun f => (P.info? f.type).map fun i => (f.offset, i.size)) = some (fs.map fun f => (f.offset, fsz P f.type))
 | [], _ => rfl
 | f :: fs, h => by
  obtain ⟨d, i, _, hi, hs⟩ := fsz_some (P := P) rfl (h f (List.mem_cons_self ..))
  simp -implicitDefEqProofs -dsimp [List.mapM_cons, hi, hs, places_mapM fs fun g hg => h g (List.mem_cons_of_mem _ hg)]
section
variable {C : Ctx} {E : Env} {cb : Comp → Option Nat} {Fc : Comp → List Nat} {σ : St} {w : World} {a : Act}
variable {P : Program} {g : Prop} {K : List (Comp × V) → List Comp → Prop} {next : Act → World → Prop} {Q : Exit → Act → World → Prop}
variable {dst : Option Tmp} {ty : TypeId} {pos : String} {after : Array Edge} {guard : Option (Nat × Bool)}
theorem so_build (h : Sim C E cb Fc σ w a) (hd : okd a.tmps.size dst) (hn : Next C σ a K next) (t : TypeId) (ps : Array (Nat × Operand)) (hk : wpo P g (.build t ps) dst σ K) : (Oper.mk dst (.build t ps) ty pos after guard).wp P a w next Q := by
 simp only [wpo] at hk
 split at hk
 ·rename_i T hT
  have hT := tyd_ok hT
  split at hk
  ·rename_i fs hfs
   split at hk
   ·rename_i cs hb
    obtain ⟨hz, hzo, hk⟩ := hk
    obtain ⟨d, i, h1, h2, h3, _, hkd, hf, hel, h4, _⟩ := hT.ex
    cases hzv : i.zero with
    | none => rw [hzv] at h4; exact absurd h4 hz
    | some z =>
     rw [hzv] at h4
     simp only at h4
     have hzc : Rs T.z E [] z.cells.toList := by rw [h4] at hzo ⊢; exact Rs_cv E _ hzo
     have hps : (ps.map fun x => (x.1, a.eval x.2)).toList = ps.toList.map fun p => (p.1, a.eval p.2) := by simp -implicitDefEqProofs -dsimp
     unfold bldFs at hfs
     split at hfs
     ·rename_i hst
      rw [hst] at hkd
      split at hfs
      ·rename_i hall
       obtain rfl := Option.some.inj hfs
       cases d with
       | struct fds =>
        simp only at hf
        rw [hf] at hall
        simp only [List.all_map, List.all_eq_true, Function.comp_apply, bne_iff_ne, ne_eq] at hall
        have hpl := places_mapM (P := P) fds.toList hall
        obtain ⟨cells', F', h5, h6⟩ := bld_fill h (fs := T.fs) (place := fun q => (fds.toList.map fun f => (f.offset, fsz P f.type)).toArray[q]?) (fun q o ag s hq => by
         rw [hf] at hq
         simp only [List.getElem?_map, Option.map_eq_some_iff, Prod.mk.injEq] at hq
         obtain ⟨f, h7, h8, _, h9⟩ := hq
         simp only [List.getElem?_toArray, List.getElem?_map, h7, Option.map_some, h8, h9]) ps.toList T.z z.cells [] hzc hb
        refine so_val h hd hn (v := .agg cells') ?_ (F := F') (by unfold R; exact ⟨cells', rfl, h6⟩) hk
        have := run_build (P := P) w t (ps.map fun x => (x.1, a.eval x.2)) cells' (by rw [hps]; unfold Program.built; simp only [h2, h1, hzv, hpl]; exact h5)
        simp -implicitDefEqProofs -dsimp [execOp, this]
       | _ => simp at hkd
      ·cases hfs
     ·rename_i m har
      rw [har] at hkd
      simp only [Option.map_eq_some_iff] at hfs
      obtain ⟨Te, hTe, rfl⟩ := hfs
      obtain ⟨de, ie, h7, h8, h9, _⟩ := (tyd_ok hTe).ex
      cases d with
      | array m' e =>
       simp only [Kd.array.injEq] at hkd
       subst hkd
       simp only at hel
       obtain ⟨cells', F', h5, h6⟩ := bld_fill h (place := fun q => some (q * ie.size, ie.size)) (fun q o ag s hq => by
        simp only [List.getElem?_map, Option.map_eq_some_iff, Prod.mk.injEq] at hq
        obtain ⟨q', h10, rfl, _, rfl⟩ := hq
        have : q' = q := by
         rw [List.getElem?_range] at h10 <;> first | exact (Option.some.inj h10).symm | (rcases Nat.lt_or_ge q m with h' | h'; exact h'; simp -implicitDefEqProofs -dsimp [h'] at h10)
        rw [this, h9]) ps.toList T.z z.cells [] hzc hb
       refine so_val h hd hn (v := .agg cells') ?_ (F := F') (by unfold R; exact ⟨cells', rfl, h6⟩) hk
       have := run_build (P := P) w t (ps.map fun x => (x.1, a.eval x.2)) cells' (by rw [hps]; unfold Program.built; simp only [h2, h1, hzv, ← hel, h8]; exact h5)
       simp -implicitDefEqProofs -dsimp [execOp, this]
      | _ => simp at hkd
     ·cases hfs
   ·exact hk.elim
  ·exact hk.elim
 ·exact hk.elim
theorem so_convert (h : Sim C E cb Fc σ w a) (hg : g) (hd : okd a.tmps.size dst) (hn : Next C σ a K next) (s t : TypeId) (x : Operand) (hk : wpo P g (.convert s t x) dst σ K) : (Oper.mk dst (.convert s t x) ty pos after guard).wp P a w next Q := by
 simp only [wpo] at hk
 obtain ⟨F, hx⟩ := h.sop x
 have hex : ∀ v, (convert s t (a.eval x)).run P w = .ok v w → (execOp a.eval ⟨dst, .convert s t x, ty, pos, after, guard⟩).run P w = .ok (.value v) w := fun v hv => by simp -implicitDefEqProofs -dsimp [execOp, hv]
 split at hk
 ·rename_i S T hS hT
  have hS' := tyd_ok hS
  have hT := tyd_ok hT
  obtain ⟨ds, is, hs1, _⟩ := hS'.ex
  split at hk
  ·rename_i k hkd
   have ht := hT.kdInt hkd
   split at hk
   ·rename_i k' n he
    rw [he] at hx
    have hx := R_sc hx
    rw [wrK_eq] at hk
    refine so_val h hd hn (hex (.int k (k.wrap n)) ?_) (R_sc_mk rfl) hk
    rw [hx]
    simp only [convert, Sem.run_bind, run_underlying hs1, run_underlying ht, Result.andThen_ok, Conv.intToInt, Sem.run_pure]
   ·exact (hk.1 hg).elim
   ·exact hk.elim
  ·rename_i hkd
   have ht := hT.kdStr hkd
   split at hk
   ·rename_i k' n he
    rw [he] at hx
    have hx := R_sc hx
    refine so_val h hd hn (hex (.string (Utf8.encode n)) ?_) (R_sc_mk rfl) hk
    rw [hx]
    simp only [convert, Sem.run_bind, run_underlying hs1, run_underlying ht, Result.andThen_ok, Conv.intToString, Sem.run_pure]
   ·rename_i str he
    rw [he] at hx
    have hx := R_sc hx
    refine so_val h hd hn (hex (.string str) ?_) (R_sc_mk rfl) hk
    rw [hx]
    simp only [convert, Sem.run_bind, run_underlying hs1, run_underlying ht, Result.andThen_ok, Sem.run_pure]
   ·split at hk
    ·rename_i e Te xs rd hsl hlv
     obtain ⟨hu, hb, hk⟩ := hk
     have hb := hb hg
     obtain ⟨A, c, hv, h1, h2, h3, h4⟩ := h.lv hx hlv
     obtain ⟨hs2, hTe⟩ := slTy_ok hsl
     refine so_val h hd hn (hex (.string (toBA xs)) ?_) (R_sc_mk rfl) hk
     rw [hv, run_convert_bytes_string w s t e A xs.length c hs2 (isU8_ok hTe hu) ht]
     cases A with
     | none =>
      have : xs = [] := List.length_eq_zero_iff.1 (by have := h3 rfl; omega)
      subst this
      rfl
     | some A =>
      by_cases hne : xs = []
      ·subst hne
       have := run_bytesToString (P := P) w A 0 c [] (by simp -implicitDefEqProofs -dsimp [loadCells, loadCellsFrom])
       exact this
      ·obtain ⟨b, off, vs, k, F', hA, hels, hcell⟩ := h4 hne
       obtain rfl := Option.some.inj hA
       obtain ⟨ns, rfl, h5, h6⟩ := Els_isByte hels hb
       have hk1 := h6 hne
       subst hk1
       have hlen : ns.length = xs.length := by have := hels.len; simpa using this
       have h7 := run_loadCells_list (P := P) w ⟨b, off, none⟩ (ns.map (Value.int .u8)) fun j u hj => by rw [Addr.add_plain]; exact hcell j u hj
       rw [List.length_map, hlen] at h7
       rw [run_bytesToString (P := P) w ⟨b, off, none⟩ xs.length c ns h7, foldl_push, h5]
       simp -implicitDefEqProofs -dsimp
    ·exact hk.elim
  ·rename_i hkd
   split at hk
   ·rename_i str e Te he hsl
    rw [he] at hx
    have hx := R_sc hx
    split at hk
    case h_2 => exact hk.elim
    rename_i d
    obtain ⟨hu, _, hbig, hk⟩ := hk
    obtain ⟨ht, hTe⟩ := slTy_ok hsl
    have hrun := Lib.run_convert_string_bytes (P := P) w s t e str hs1 ht (isU8_ok hTe hu)
    let E' : Env := { E with Φ := fun b o => if b = w.heap.size then (str.toList.map bval)[o]? else E.Φ b o }
    have hfrz : ∀ b o v, E.Φ b o = some v → b < w.heap.size := fun b o v e => World.block_lt_of_cell? w ⟨b, o, none⟩ (h.frz b o v e)
    have hE : E.le E' := ⟨fun b o v e => by
     simp only [E']; rw [if_neg (by have := hfrz b o v e; omega)]; exact e, fun _ _ h => h, fun _ _ _ h => h, fun h => h⟩
    have hlen : str.toList.length = str.size := by rw [ByteArray.toList_eq]; simp -implicitDefEqProofs -dsimp
    have hcell : ∀ j u, (str.toList.map bval)[j]? = some u → (Lib.bytesWorld w e str).cell? ⟨w.heap.size, j, none⟩ = some u := fun j u hj => by
     have hjl := (List.getElem?_eq_some_iff.1 hj).1
     rw [List.length_map, hlen] at hjl
     rw [Lib.bytesWorld_cell w e str j hjl, ← hj, List.getElem?_map, ByteArray.toList_eq]
     simp -implicitDefEqProofs -dsimp [List.getD, bval, hjl]
    have hval : R (.sl (str.toList.map bv)) E' [w.heap.size] (.slice (some ⟨w.heap.size, 0, none⟩) str.size (grownCap w str.size 0 e)) := by
     unfold R
     have hge := grownCap_ge w str.size 0 e
     have hsm : str.size ≤ maxLen := by unfold maxLen; omega
     refine ⟨_, _, by rw [List.length_map, hlen], by rw [List.length_map, hlen]; exact hge, grownCap_le_maxLen w _ 0 e hsm, .inr ⟨w.heap.size, 0, [], str.toList.map bval, 1, rfl, rfl, fun j u hj => ?_, Els_bytes _ _⟩⟩
     simp only [E', if_true, Nat.zero_add]; exact hj
    have hsim : ∀ d, d < a.tmps.size → Held C (upd σ (.t d) (.sl (str.toList.map bv))) (Lib.bytesWorld w e str) (a.put (some d) (.slice (some ⟨w.heap.size, 0, none⟩) str.size (grownCap w str.size 0 e))) := fun d hdd => by
     refine ⟨E', cb, Fc, h.gen [] (fun c _ hc => ⟨upd_ne _ _ (hc d), rfl, rfl⟩) h.cbt hE (fun _ _ h => h) (fun _ _ _ h => h) ?_ (fun b o v e => by
      simp only [E'] at e
      split at e
      ·rename_i hb; subst hb; exact .inr (.inl h.size)
      ·exact .inl e) (fun b hb _ => Lib.bytesWorld_at_old w e str b hb) (by rw [Lib.bytesWorld_size]; omega) rfl rfl rfl ?_ (by simp -implicitDefEqProofs -dsimp) ?_ (by simp -implicitDefEqProofs -dsimp) (by simp -implicitDefEqProofs -dsimp) (by simp -implicitDefEqProofs -dsimp) h.dfr (by simp -implicitDefEqProofs -dsimp)⟩
     ·intro b o v hv
      simp only [E'] at hv
      split at hv
      ·rename_i hb; subst hb; exact hcell o v hv
      ·rw [Lib.bytesWorld_old w e str _ (hfrz b o v hv)]; exact h.frz b o v hv
     ·exact tmp_upd h hE (fun _ => rfl) hdd hval
     ·intro c gb hc o
      have := (h.new c gb (mem_exc hc)).2
      simp only [E']; rw [if_neg (by omega)]; exact h.out c gb hc o
    unfold Oper.wp
    have hrun' : (execOp a.eval ⟨some d, .convert s t x, ty, pos, after, guard⟩).run P w = .ok (.value (.slice (some ⟨w.heap.size, 0, none⟩) str.size (grownCap w str.size 0 e))) (Lib.bytesWorld w e str) := by
     simp only [execOp, hx, Sem.run_bind, hrun, Result.andThen_ok, Sem.run_pure]
    rw [hrun', Oper.upon_value]
    exact hn _ _ _ _ hk (hsim d hd) (by simp -implicitDefEqProofs -dsimp [Act.put])
   ·exact hk.elim
  ·exact hk.elim
 ·exact hk.elim
end
end Go.Proofs.YtlfblkekbcfjpaaGreatDoor
