/- Part of a proof: contracts and plain laws. -/
import Derived.Test.YtlfblkekbcfjpaaGreatDoorZ04
set_option linter.unusedVariables false
set_option linter.unusedSimpArgs false
namespace Go.Proofs.YtlfblkekbcfjpaaGreatDoor
open Go.RowKit
section
variable {C : Ctx} {E E' : Env} {cb : Comp → Option Nat} {Fc : Comp → List Nat} {σ : St} {w : World} {a : Act}
variable {P : Program} {g : Prop} {K : List (Comp × V) → List Comp → Prop} {next : Act → World → Prop} {Q : Exit → Act → World → Prop}
variable {dst : Option Tmp} {ty : TypeId} {pos : String} {after : Array Edge} {guard : Option (Nat × Bool)}
theorem Els.flat : ∀ {xs : List V} {E : Env} {F : List Nat} {vs : List Value} {k : Nat}, Els xs E F vs k → (∀ x ∈ xs, x.ok = true) → xs.all flatE = true → F = []
 | [], _, _, _, _, h, _, _ => by unfold Els at h; exact h.1
 | x :: xs, E, _, _, _, h, ho, hf => by
  unfold Els at h
  obtain ⟨F1, F2, v, ws, rfl, rfl, h3, h4, h5, h6⟩ := h
  simp only [List.all_cons, Bool.and_eq_true] at hf
  have h7 := h6.flat (fun y hy => ho y (List.mem_cons_of_mem _ hy)) hf.2
  have h8 := R_cs h3 (ho x (List.mem_cons_self ..))
  have key : ∀ {cs : List V} {F : List Nat} {vs : List Value}, Rs cs E F vs → cs.all V.flat = true → F = [] := by
   intro cs
   induction cs with
   | nil => intro F vs h _; unfold Rs at h; exact h.1
   | cons c cs ih =>
    intro F vs h hf
    unfold Rs at h
    obtain ⟨G1, G2, u, us, rfl, rfl, h9, _, h10⟩ := h
    simp only [List.all_cons, Bool.and_eq_true] at hf
    have h11 := ih h10 hf.2
    have h12 : G1 = [] := by
     have := hf.1
     cases c <;> simp -implicitDefEqProofs -dsimp [V.flat] at this <;> unfold R at h9 <;> exact h9.1
    rw [h11, h12]; rfl
  rw [key h8 hf.1, h7]; rfl
structure SrcOk (C : Ctx) (E : Env) (σ : St) (cb : Comp → Option Nat) (Fc : Comp → List Nat) (w : World) (m : List Comp) (dx : Bool) (e : TypeId) (k : Nat) (xs : List V) (u : Value) : Prop where
 row : ∀ c ∈ m, ∃ i j, c = .r i j ∧ isRow (σ c) = true
 ex : ∃ vs Fx, w.ownsRow 0 e k u xs.length vs ∧ Els xs E.dat Fx vs k ∧ (∀ g, u.ownBlock = some g → ∃ c ∈ m, cb c = some g) ∧
  (dx = true → Fx.Nodup ∧ ∀ b ∈ Fx, PlB w b ∧ u.ownBlock ≠ some b ∧ ∃ c ∈ m, b ∈ exc (σ c) (cb c) (Fc c))
theorem SrcOk.nil (C : Ctx) (E : Env) (σ : St) (cb : Comp → Option Nat) (Fc : Comp → List Nat) (w : World) (e : TypeId) (k : Nat) : SrcOk C E σ cb Fc w [] true e k [] (.slice none 0 0) :=
 ⟨by simp, [], [], World.ownsRow_nil w 0 e k, by unfold Els; exact ⟨rfl, rfl⟩, by simp -implicitDefEqProofs -dsimp [Value.ownBlock], fun _ => ⟨List.nodup_nil, by simp⟩⟩
theorem Sim.src (h : Sim C E cb Fc σ w a) {i j : Nat} {dx : Bool} {e : TypeId} {k : Nat} {xs : List V} {u : Value} (hb : σ (.r i j) = .row dx e xs) (hu : E.ρ i j = some u) (hinf : (C.P.info? e).map (·.size) = some k) : SrcOk C E σ cb Fc w [.r i j] dx e k xs u := by
 have h2 := h.mem (.r i j)
 rw [hb] at h2
 obtain ⟨u', vs, k', h3, h4, h5, h6, h7, h8, h9⟩ := h2
 obtain rfl := Option.some.inj (hu.symm.trans h3)
 obtain rfl := Option.some.inj (hinf.symm.trans h4)
 refine ⟨fun c hc => ?_, vs, _, h6, h7, fun g hg => ⟨_, by simp, h8.trans hg⟩, fun hd => ?_⟩
 ·simp only [List.mem_singleton] at hc
  subst hc
  exact ⟨i, j, rfl, by rw [hb]; rfl⟩
 ·have hn := h.nod (.r i j)
  rw [hb] at hn
  simp only [exc, deep, hd, if_true] at hn
  refine ⟨(List.nodup_append.1 hn).2.1, fun b hbm => ⟨h9 hd b hbm, fun e => ?_, _, List.mem_singleton.2 rfl, ?_⟩⟩
  ·exact (List.nodup_append.1 hn).2.2 b (by rw [h8, e]; simp -implicitDefEqProofs -dsimp) b hbm rfl
  ·rw [hb]; exact mem_exc_deep (by simp -implicitDefEqProofs -dsimp [deep, hd]) hbm
theorem app_run {P : Program} {d : Nat} {s x : Operand} {t t' : TypeId} {v u v' : Value} {w w' : World} {a : Act} {next : Act → World → Prop} {Q : Exit → Act → World → Prop} (hs : a.eval s = v) (hx : a.eval x = u)
  (hrun : (Builtin.append_ #[t, t'] ty #[v, u]).run P w = .ok v' w') (h : next (a.put (some d) v') w') : (Oper.mk (some d) (.call { callee := .builtin .append, args := #[s, x], argTypes := #[t, t'] }) ty pos after guard).wp P a w next Q := by
 unfold Oper.wp execOp
 simp only [resolve, invoke, builtin, Sem.run_bind, Sem.run_pure, Result.andThen_ok, List.map_toArray, List.map_cons, List.map_nil, hs, hx, hrun]
 exact h
theorem so_appS (h : Sim C E cb Fc σ w a) (hP : C.P = P) {d : Nat} (hd : d < a.tmps.size) {s x : Operand} {t e : TypeId} {Te : TD} (ht : P.underlying t = some (.slice e)) (hTe : TyOk P e Te) {m : List Comp} {dx dy : Bool} {xs ys : List V} {u uy : Value}
  (hsrc : SrcOk C E σ cb Fc w m dx e Te.sz xs u) (hs : a.eval s = u) (hx : a.eval x = uy) (hun : σ (.r d 0) = .un) (hzl : Te.z.length = Te.sz) (hsz0 : 0 < Te.sz) (hby0 : 0 < Te.by_) (hbig : (xs.length + ys.length) * Te.by_ ≤ 1099511627776)
  (hy : ∃ A c, uy = .slice A ys.length c ∧ (A = none → c = 0) ∧ ys.length ≤ c ∧ (ys ≠ [] → ∃ b off vs F, A = some ⟨b, off, none⟩ ∧ Els ys E.dat F vs Te.sz ∧ (∀ j u, vs[j]? = some u → w.cell? ⟨b, off + j, none⟩ = some u) ∧
   (dy = true → F.Nodup ∧ ∀ b ∈ F, PlB w b ∧ (C.w0.heap.size ≤ b ∨ b ∈ C.X) ∧ b < w.heap.size ∧ ∀ c, b ∉ exc (σ c) (cb c) (Fc c))))
  (hn : ∀ a' w', Held C (upd (upd (upds σ (m.map fun c => (c, V.dead))) (.r d 0) (.row (dx && dy) e (xs ++ ys))) (.t d) (.own d 0)) w' a' → a'.tmps.size = a.tmps.size → next a' w') :
  (Oper.mk (some d) (.call { callee := .builtin .append, args := #[s, x], argTypes := #[t, t] }) ty pos after guard).wp P a w next Q := by
 obtain ⟨hrow, vsx, Fx, hown, hels, hub, hFx⟩ := hsrc
 obtain ⟨A, c, hvy, hA, hlc, hel⟩ := hy
 obtain ⟨de, ie, h1, h2, h3, hby, _, _, _, h4, _⟩ := hTe.ex
 have hlen : xs.length + ys.length ≤ 1099511627776 := Nat.le_trans (Nat.le_mul_of_pos_right _ hby0) hbig
 have fin : ∀ (ad : Addr) (c : Nat) (news : List Value) (Fy : List Nat), a.eval x = .slice (some ad) ys.length c → Els ys E.dat Fy news Te.sz → (∀ j u, news[j]? = some u → w.cell? (ad.add j) = some u) →
   (dy = true → Fy.Nodup ∧ ∀ b ∈ Fy, PlB w b ∧ (C.w0.heap.size ≤ b ∨ b ∈ C.X) ∧ b < w.heap.size ∧ ∀ c, b ∉ exc (σ c) (cb c) (Fc c)) → (Oper.mk (some d) (.call { callee := .builtin .append, args := #[s, x], argTypes := #[t, t] }) ty pos after guard).wp P a w next Q := by
  intro ad c news Fy hv hely hcell hFy
  cases hzv : ie.zero with
  | none => rw [hzv] at h4; rw [h4] at hzl; simp at hzl; omega
  | some z =>
   rw [hzv] at h4
   have hzs : z.cells.size = Te.sz := by rw [← hzl, h4]; simp -implicitDefEqProofs -dsimp
   obtain ⟨v', w', hrun, ho, hg, _, hb⟩ := run_append_own_at (P := P) w 0 t ty e ie z Te.sz Te.by_ ht h2 hzv h3.symm hby.symm hzs hsz0 u xs.length vsx hown ad ys.length c news (by rw [hely.len]) hcell hely.one (by unfold maxLen; omega) (by omega) (Nat.zero_le _)
   refine app_run hs hv hrun (hn _ _ (h.app (k := Te.sz) m hrow (hP ▸ hTe.info) hsz0 hown hels hub hFx hely hFy ho hg hb (fun g hg => (ho.lt g hg).2) hun hd ?_) (by simp -implicitDefEqProofs -dsimp [Act.put]))
   rcases ho.2 with ⟨rfl, _⟩ | ⟨g', cap, cur, rfl, _⟩ <;> rfl
 by_cases hne : ys = []
 ·subst hne
  cases A with
  | none =>
   have hc0 := hA rfl
   subst hc0
   have hrun := run_append_owned_none (P := P) (w := w) 0 t ty e ie Te.sz ht h2 u xs.length vsx hown
   refine app_run hs (hx.trans hvy) hrun (hn _ _ (h.app (k := Te.sz) (Fy := []) (news := []) m hrow (hP ▸ hTe.info) hsz0 hown hels hub hFx (by unfold Els; exact ⟨rfl, rfl⟩) (fun _ => ⟨List.nodup_nil, by simp⟩) (by simpa using hown) ⟨rfl, rfl, rfl, Nat.le_refl _, fun _ _ _ => rfl⟩ (.inl rfl) (fun g hg => (hown.lt g hg).2) hun hd ?_) (by simp -implicitDefEqProofs -dsimp [Act.put]))
   rcases hown.2 with ⟨rfl, _⟩ | ⟨g', cap, cur, rfl, _⟩ <;> rfl
  | some ad => exact fin ad c [] [] (hx.trans hvy) (by unfold Els; exact ⟨rfl, rfl⟩) (by simp -implicitDefEqProofs -dsimp) (fun _ => ⟨List.nodup_nil, by simp⟩)
 ·obtain ⟨b, off, vs, F, rfl, h5, h6, h7⟩ := hel hne
  exact fin _ c vs F (hx.trans hvy) h5 (fun j u hj => by rw [Addr.add_plain]; exact h6 j u hj) h7
end
end Go.Proofs.YtlfblkekbcfjpaaGreatDoor
namespace Go.Proofs.YtlfblkekbcfjpaaGreatDoor
open Go.RowKit
section
variable {C : Ctx} {E E' : Env} {cb : Comp → Option Nat} {Fc : Comp → List Nat} {σ : St} {w : World} {a : Act}
variable {P : Program} {g : Prop} {K : List (Comp × V) → List Comp → Prop} {next : Act → World → Prop} {Q : Exit → Act → World → Prop}
variable {dst : Option Tmp} {ty : TypeId} {pos : String} {after : Array Edge} {guard : Option (Nat × Bool)}
theorem Els_strCells (E : Env) (s : ByteArray) : Els (s.toList.map bv) E [] (Lib.strCells s) 1 := by
 have : Lib.strCells s = s.toList.map bval := by rw [ByteArray.toList_eq]; rfl
 rw [this]; exact Els_bytes E _
theorem so_appStr (h : Sim C E cb Fc σ w a) (hP : C.P = P) {d : Nat} (hd : d < a.tmps.size) {s x : Operand} {t t' e : TypeId} {Te : TD} (ht : P.underlying t = some (.slice e)) (hTe : TyOk P e Te) (ht' : P.underlying t' = some .string) (hu8 : isU8 Te.kd = true) (hby1 : Te.by_ = 1) {m : List Comp} {dx : Bool} {xs : List V} {u : Value} {str : ByteArray}
  (hsrc : SrcOk C E σ cb Fc w m dx e Te.sz xs u) (hs : a.eval s = u) (hx : a.eval x = .string str) (hun : σ (.r d 0) = .un) (hzl : Te.z.length = Te.sz) (hsz0 : 0 < Te.sz) (hbig : xs.length + str.size ≤ 1099511627776) (hz1 : Te.z = [.sc (.int .u8 0)]) (hz2 : Te.z1 = true)
  (hn : ∀ a' w', Held C (upd (upd (upds σ (m.map fun c => (c, V.dead))) (.r d 0) (.row dx e (xs ++ str.toList.map bv))) (.t d) (.own d 0)) w' a' → a'.tmps.size = a.tmps.size → next a' w') :
  (Oper.mk (some d) (.call { callee := .builtin .append, args := #[s, x], argTypes := #[t, t'] }) ty pos after guard).wp P a w next Q := by
 obtain ⟨hrow, vsx, Fx, hown, hels, hub, hFx⟩ := hsrc
 obtain ⟨de, ie, h1, h2, h3, hby, _, _, _, h4, h5⟩ := hTe.ex
 have hsz1 : Te.sz = 1 := by rw [← hzl, hz1]; rfl
 rw [hsz1] at hown hels h3
 have hlen : (str.toList.map bv).length = str.size := by rw [List.length_map, ByteArray.toList_eq]; simp -implicitDefEqProofs -dsimp
 cases hzv : ie.zero with
 | none => rw [hzv, hz1] at h4; simp at h4
 | some z =>
  rw [hzv, hz1] at h4
  have hz : z = .int .u8 0 := by
   rw [hzv, hz2] at h5
   simp only at h4 h5
   rw [cells_one h5.symm] at h4
   cases z <;> simp -implicitDefEqProofs -dsimp [cv] at h4
   ·rename_i k n; obtain ⟨rfl, rfl⟩ := h4; rfl
   ·rename_i a n c
    cases a <;> cases n <;> cases c <;> simp -implicitDefEqProofs -dsimp [cv] at h4
  rw [hz] at hzv
  obtain ⟨v', w', hrun, ho, hg, _⟩ := Lib.run_append_own_string (P := P) (w := w) 0 t t' ty e ie ht ht' h2 hzv h3.symm (by rw [← hby]; exact hby1) u xs.length vsx hown str (by unfold maxLen; omega) (by omega) (Nat.zero_le _)
  have hb := append_str_block (P := P) (w := w) t t' ty e ie ht ht' h2 hzv h3.symm (by rw [← hby]; exact hby1) u xs.length vsx hown str (by omega) hrun
  have hh := h.app (d := d) (dx := dx) (dy := true) (k := 1) (Fy := []) (ys := str.toList.map bv) m hrow (by rw [← hsz1]; exact hP ▸ hTe.info) (by omega) hown hels hub hFx (Els_strCells _ str) (fun _ => ⟨List.nodup_nil, by simp⟩) (by rw [hlen]; exact ho) hg hb (fun g hg => (ho.lt g hg).2) hun hd (by rcases ho.2 with ⟨rfl, _⟩ | ⟨g', cap, cur, rfl, _⟩ <;> rfl)
  rw [Bool.and_true] at hh
  exact app_run hs hx hrun (hn _ _ hh (by simp -implicitDefEqProofs -dsimp [Act.put]))
def Src (C : Ctx) (E : Env) (σ : St) (w : World) (a : Act) (m : List Comp) (dx : Bool) (e : TypeId) (k : Nat) (xs : List V) (u : Value) : Prop :=
 (∀ c ∈ m, ∃ i j, c = .r i j ∧ isRow (σ c) = true) ∧
 ∀ E' cb' Fc' σ', Sim C E' cb' Fc' σ' w a → E'.ρ = E.ρ → (∀ c ∈ m, σ' c = σ c) → SrcOk C E' σ' cb' Fc' w m dx e k xs u
theorem so_appY (h : Sim C E cb Fc σ w a) (hP : C.P = P) (hg : g) {d : Nat} (hd : d < a.tmps.size) {s x : Operand} {t t' e : TypeId} {Te : TD} (hT : slTy P t = some (e, Te)) {m : List Comp} {dx : Bool} {xs : List V} {u : Value}
  (hsrc : Src C E σ w a m dx e Te.sz xs u) (hs : a.eval s = u) (hn : Next C σ a K next) (hk : appY P g t t' e Te (sop σ x) d σ K m dx xs) :
  (Oper.mk (some d) (.call { callee := .builtin .append, args := #[s, x], argTypes := #[t, t'] }) ty pos after guard).wp P a w next Q := by
 obtain ⟨ht, hTe⟩ := slTy_ok hT
 obtain ⟨F, hx⟩ := h.sop x
 have hsrc0 := hsrc.2 E cb Fc σ h rfl (fun _ _ => rfl)
 have hfin : ∀ {ys : List V} {dq : Bool} {rd : List Comp} {cs : List Comp} {σ1 : St}, σ1 = upds σ (frozen σ cs) → K (frozen σ cs ++ (m.map (fun c => (c, V.dead)) ++ [(.r d 0, .row (dx && dq) e (xs ++ ys)), (.t d, .own d 0)])) rd →
   ∀ a' w', Held C (upd (upd (upds σ1 (m.map fun c => (c, V.dead))) (.r d 0) (.row (dx && dq) e (xs ++ ys))) (.t d) (.own d 0)) w' a' → a'.tmps.size = a.tmps.size → next a' w' := by
  intro ys dq rd cs σ1 hσ1 hk a' w' hh hs
  refine hn _ _ a' w' hk ?_ hs
  rw [upds_append, upds_append, ← hσ1]; exact hh
 have dataS : ∀ {ys : List V} {rd : List Comp} {rd' : List Comp}, lv σ (sop σ x) = some (ys, rd) → t' = t → wid Te.sz ys → appK g e Te d σ K m dx xs ys [] (ys.all flatE) rd' → (Oper.mk (some d) (.call { callee := .builtin .append, args := #[s, x], argTypes := #[t, t'] }) ty pos after guard).wp P a w next Q := by
  intro ys rd rd' hl htt hw hk1
  subst htt
  obtain ⟨_, hun, hzl, hsz0, hby0, hbig, hk2⟩ := hk1
  obtain ⟨A, c, hv, h1, h2, h3, h4⟩ := h.lv hx hl
  refine so_appS h hP hd ht hTe (dy := ys.all flatE) hsrc0 hs rfl (isUn_eq hun) hzl hsz0 hby0 hbig ⟨A, c, hv, h3, h1, fun hne => ?_⟩ (hfin (cs := []) rfl hk2)
  obtain ⟨b, off, vs, k, F', hA, hels, hcell⟩ := h4 hne
  have hk' : k = Te.sz := by
   cases ys with
   | nil => exact absurd rfl hne
   | cons y ys =>
    have h5 := hels
    unfold Els at h5
    obtain ⟨F1, F2, v, ws, _, _, h6, h7, _⟩ := h5
    have h8 := hw y (List.mem_cons_self ..)
    rw [← h7, ← h8.2, ← (R_cs h6 h8.1).len]; simp -implicitDefEqProofs -dsimp
  subst hk'
  exact ⟨b, off, vs, F', hA, hels, hcell, fun hf => by
   rw [hels.flat (fun y hy => (hw y hy).1) hf]; exact ⟨List.nodup_nil, by simp⟩⟩
 unfold appY at hk
 split at hk
 ·rename_i str he
  rw [he] at hx
  have hx := R_sc hx
  obtain ⟨hst, hu8, hby1, hz1, hz2, _, hun, hzl, hsz0, _, hbig, hk⟩ := hk
  have hlen : (str.toList.map bv).length = str.size := by rw [List.length_map, ByteArray.toList_eq]; simp -implicitDefEqProofs -dsimp
  rw [hlen, hby1, Nat.mul_one] at hbig
  refine so_appStr h hP hd ht hTe (isStr_ok hst) hu8 hby1 hsrc0 hs hx (isUn_eq hun) hzl hsz0 hbig hz1 hz2 ?_
  have := hfin (cs := []) (σ1 := σ) rfl hk
  rw [Bool.and_true] at this
  exact this
 ·rename_i p q he
  split at hk
  ·rename_i dq e' ys hb
   obtain ⟨rfl, hmne, hw, _, hun, hzl, hsz0, hby0, hbig, hk⟩ := hk
   rw [he] at hx
   unfold R at hx
   obtain ⟨_, _, hρ, _⟩ := hx
   have hrow1 : ∀ c ∈ [Comp.r p q], ∃ i j, c = .r i j ∧ isRow (σ c) = true := fun c hc => by
    simp only [List.mem_singleton] at hc
    subst hc
    exact ⟨p, q, rfl, by rw [hb]; rfl⟩
   obtain ⟨h', hM⟩ := h.freezeL [.r p q] hrow1
   have hσ' : ∀ c, upds σ (frozen σ [.r p q]) c = if c ∈ [Comp.r p q] then .sl (rowV (σ c)) else σ c := upds_frozen σ [.r p q] σ
   have hsrc' := hsrc.2 _ _ _ _ h' rfl (fun c hc => by rw [hσ', if_neg (by simpa using hmne c hc)])
   obtain ⟨uy, F', h1, h2, h3⟩ := hM p q dq e' ys (by simp -implicitDefEqProofs -dsimp) hb
   have hv : a.eval x = uy := Option.some.inj (hρ.symm.trans h1)
   have hun' : upds σ (frozen σ [.r p q]) (.r d 0) = .un := by
    rw [hσ', if_neg]
    ·exact isUn_eq hun
    ·intro hc
     simp only [List.mem_singleton] at hc
     rw [hc, hb] at hun; cases hun
   have h2' := h2
   unfold R at h2'
   obtain ⟨A, c, hva, hlc, _, h4⟩ := h2'
   refine so_appS h' hP hd ht hTe (dy := dq) hsrc' hs rfl hun' hzl hsz0 hby0 hbig ⟨A, c, hv.trans hva, ?_, hlc, fun hne => ?_⟩ (hfin (cs := [.r p q]) rfl hk)
   ·rcases h4 with ⟨_, _, h5⟩ | ⟨b, off, F'', vs, k, rfl, _⟩
    ·exact h5
    ·intro e; cases e
   ·rcases h4 with ⟨rfl, _⟩ | ⟨b, off, F'', vs, k, rfl, rfl, h5, h6⟩
    ·exact absurd rfl hne
    ·have hk' : k = Te.sz := by
      cases ys with
      | nil => exact absurd rfl hne
      | cons y ys =>
       have h7 := h6
       unfold Els at h7
       obtain ⟨F1, F2, v, ws, _, _, h8, h9, _⟩ := h7
       have h10 := hw y (List.mem_cons_self ..)
       rw [← h9, ← h10.2, ← (R_cs h8 h10.1).len]; simp -implicitDefEqProofs -dsimp
     subst hk'
     refine ⟨b, off, vs, F'', rfl, h6, fun j u hj => h'.frz _ _ _ (h5 j u hj), fun hdq => ?_⟩
     have h11 := h3 hdq
     have hX : Excl σ cb Fc w [.r p q] F'' := ⟨(List.nodup_cons.1 h11.1).2, fun b' hb' => ⟨(h11.2 b' (List.mem_cons_of_mem _ hb')).2, _, List.mem_singleton.2 rfl, (h11.2 b' (List.mem_cons_of_mem _ hb')).1⟩⟩
     obtain ⟨h12, h13⟩ := hX.new h hrow1
     exact ⟨h12, fun b' hb' => ⟨(h13 b' hb').2.2.1, (h13 b' hb').1, (h13 b' hb').2.1, (h13 b' hb').2.2.2⟩⟩
  ·rename_i ys hb
   obtain ⟨h1, h2, h3⟩ := hk
   exact dataS (rd := [.r p q]) (by rw [he]; simp -implicitDefEqProofs -dsimp [lv, hb]) h1 h2 h3
  ·exact hk.elim
 ·rename_i ys he
  obtain ⟨h1, h2, h3⟩ := hk
  exact dataS (rd := []) (by rw [he]; rfl) h1 h2 h3
 ·rename_i he
  obtain ⟨h1, h3⟩ := hk
  exact dataS (rd := []) (by rw [he]; rfl) h1 (fun x hx => by cases hx) h3
 ·exact hk.elim
theorem so_append (h : Sim C E cb Fc σ w a) (hP : C.P = P) (hg : g) (hd : okd a.tmps.size dst) {s x : Operand} {ts : List TypeId} (hn : Next C σ a K next) (hk : wpapp P g ts (sop σ s) (sop σ x) dst σ K) :
  (Oper.mk dst (.call { callee := .builtin .append, args := #[s, x], argTypes := ts.toArray }) ty pos after guard).wp P a w next Q := by
 unfold wpapp at hk
 split at hk
 ·rename_i t t' d
  split at hk
  ·rename_i e Te hT
   obtain ⟨F, hs⟩ := h.sop s
   split at hk
   ·rename_i he
    rw [he] at hs
    unfold R at hs
    exact so_appY h hP hg hd hT (m := []) ⟨by simp, fun E' cb' Fc' σ' _ _ _ => SrcOk.nil ..⟩ hs.2 hn hk
   ·rename_i i j he
    rw [he] at hs
    unfold R at hs
    obtain ⟨_, _, hρ, _⟩ := hs
    split at hk
    ·rename_i dp e' xs hb
     obtain ⟨rfl, hk⟩ := hk
     refine so_appY h hP hg hd hT (m := [.r i j]) ⟨fun c hc => ?_, fun E' cb' Fc' σ' h' hρ' hc' => h'.src ?_ ?_ (hP ▸ (slTy_ok hT).2.info)⟩ rfl hn hk
     ·simp only [List.mem_singleton] at hc
      subst hc
      exact ⟨i, j, rfl, by rw [hb]; rfl⟩
     ·rw [hc' _ (by simp -implicitDefEqProofs -dsimp)]; exact hb
     ·rw [hρ']; exact hρ
    ·exact hk.elim
   ·exact hk.elim
  ·exact hk.elim
 ·exact hk.elim
end
end Go.Proofs.YtlfblkekbcfjpaaGreatDoor
namespace Go.Proofs.YtlfblkekbcfjpaaGreatDoor
open Go.RowKit
mutual
theorem R.free {E E' : Env} (hl : E.loc = false) : ∀ (x : V) {F : List Nat} {v : Value}, (∀ b ∈ F, ∀ o u, E.Φ b o = some u → E'.Φ b o = some u) → R x E F v → R x E' F v
 | .un, _, _, _, hx => by unfold R at *; exact hx
 | .nil, _, _, _, hx => by unfold R at *; exact hx
 | .sc u, _, _, _, hx => by unfold R at *; exact hx
 | .sl xs, _, _, hΦ, hx => by
  unfold R at *
  obtain ⟨A, c, h1, h2, h3, h4⟩ := hx
  refine ⟨A, c, h1, h2, h3, h4.imp_right ?_⟩
  rintro ⟨b, off, F', vs, k, h5, rfl, h7, h8⟩
  exact ⟨b, off, F', vs, k, h5, rfl, fun j u hj => hΦ b (List.mem_cons_self ..) _ _ (h7 j u hj), Els.free (E := E.dat) (E' := E'.dat) rfl xs (fun b hb => hΦ b (List.mem_cons_of_mem _ hb)) h8⟩
 | .ag cs, _, _, hΦ, hx => by
  unfold R at *
  obtain ⟨vs, h1, h2⟩ := hx
  exact ⟨vs, h1, Rs.free hl cs hΦ h2⟩
 | .tu cs, _, _, _, hx => by unfold R at hx; rw [hl] at hx; cases hx.1
 | .pt b o, _, _, _, hx => by unfold R at hx; rw [hl] at hx; cases hx.1
 | .po i j n k o, _, _, _, hx => by unfold R at hx; rw [hl] at hx; cases hx.1
 | .pi cs, _, _, hΦ, hx => by
  unfold R at *
  obtain ⟨b, off, vs, F', rfl, h1, h2, h3⟩ := hx
  exact ⟨b, off, vs, F', rfl, h1, fun j u hj => hΦ b (List.mem_cons_self ..) _ _ (h2 j u hj), Rs.free (E := E.dat) (E' := E'.dat) rfl cs (fun b hb => hΦ b (List.mem_cons_of_mem _ hb)) h3⟩
 | .own i j, _, _, _, hx => by unfold R at hx; rw [hl] at hx; cases hx.1
 | .fn f cs, _, _, hΦ, hx => by
  unfold R at *
  obtain ⟨vs, h1, h2⟩ := hx
  exact ⟨vs, h1, Rs.free hl cs hΦ h2⟩
 | .dead, _, _, _, hx => by unfold R at hx; exact hx.elim
 | .row .., _, _, _, hx => by unfold R at hx; exact hx.elim
 | .blk .., _, _, _, hx => by unfold R at hx; exact hx.elim
 | .gd b w x, _, _, hΦ, hx => by unfold R at *; exact ⟨fun e => R.free hl x hΦ (hx.1 e), hx.2⟩
 | .pin u xs, _, _, hΦ, hx => by
  unfold R at *
  obtain ⟨h0, A, c, h1, h2, h3, h4⟩ := hx
  refine ⟨h0, A, c, h1, h2, h3, h4.imp_right ?_⟩
  rintro ⟨b, off, F', vs, k, h5, rfl, h7, h8⟩
  exact ⟨b, off, F', vs, k, h5, rfl, fun j u hj => hΦ b (List.mem_cons_self ..) _ _ (h7 j u hj), Els.free (E := E.dat) (E' := E'.dat) rfl xs (fun b hb => hΦ b (List.mem_cons_of_mem _ hb)) h8⟩
theorem Rs.free {E E' : Env} (hl : E.loc = false) : ∀ (xs : List V) {F : List Nat} {vs : List Value}, (∀ b ∈ F, ∀ o u, E.Φ b o = some u → E'.Φ b o = some u) → Rs xs E F vs → Rs xs E' F vs
 | [], _, _, _, hx => by unfold Rs at *; exact hx
 | x :: xs, _, _, hΦ, hx => by
  unfold Rs at *
  obtain ⟨F1, F2, v, ws, rfl, h2, h3, h4, h5⟩ := hx
  exact ⟨F1, F2, v, ws, rfl, h2, R.free hl x (fun b hb => hΦ b (List.mem_append_left _ hb)) h3, h4, Rs.free hl xs (fun b hb => hΦ b (List.mem_append_right _ hb)) h5⟩
theorem Els.free {E E' : Env} (hl : E.loc = false) : ∀ (xs : List V) {F : List Nat} {vs : List Value} {k : Nat}, (∀ b ∈ F, ∀ o u, E.Φ b o = some u → E'.Φ b o = some u) → Els xs E F vs k → Els xs E' F vs k
 | [], _, _, _, _, hx => by unfold Els at *; exact hx
 | x :: xs, _, _, _, hΦ, hx => by
  unfold Els at *
  obtain ⟨F1, F2, v, ws, rfl, h2, h3, h4, h5, h6⟩ := hx
  exact ⟨F1, F2, v, ws, rfl, h2, R.free hl x (fun b hb => hΦ b (List.mem_append_left _ hb)) h3, h4, h5, Els.free hl xs (fun b hb => hΦ b (List.mem_append_right _ hb)) h6⟩
end
mutual
theorem R.ofDat {E : Env} : ∀ (x : V) {F : List Nat} {v : Value}, dat x = true → R x E F v → R x E.dat F v
 | .un, _, _, _, hx => by unfold R at *; exact hx
 | .nil, _, _, _, hx => by unfold R at *; exact hx
 | .sc u, _, _, _, hx => by unfold R at *; exact hx
 | .sl xs, _, _, _, hx => by unfold R at *; exact hx
 | .pi cs, _, _, _, hx => by unfold R at *; exact hx
 | .pin u xs, _, _, _, hx => by unfold R at *; exact hx
 | .ag cs, _, _, hd, hx => by
  unfold dat at hd
  unfold R at *
  obtain ⟨vs, h1, h2⟩ := hx
  exact ⟨vs, h1, Rs.ofDat cs hd h2⟩
 | .fn f cs, _, _, hd, hx => by
  unfold dat at hd
  unfold R at *
  obtain ⟨vs, h1, h2⟩ := hx
  exact ⟨vs, h1, Rs.ofDat cs hd h2⟩
 | .tu cs, _, _, hd, _ => by cases hd
 | .pt .., _, _, hd, _ => by cases hd
 | .po .., _, _, hd, _ => by cases hd
 | .own .., _, _, hd, _ => by cases hd
 | .dead, _, _, hd, _ => by cases hd
 | .row .., _, _, hd, _ => by cases hd
 | .blk .., _, _, hd, _ => by cases hd
 | .gd .., _, _, hd, _ => by cases hd
theorem Rs.ofDat {E : Env} : ∀ (xs : List V) {F : List Nat} {vs : List Value}, dats xs = true → Rs xs E F vs → Rs xs E.dat F vs
 | [], _, _, _, hx => by unfold Rs at *; exact hx
 | x :: xs, _, _, hd, hx => by
  unfold dats at hd
  rw [Bool.and_eq_true] at hd
  unfold Rs at *
  obtain ⟨F1, F2, v, ws, h1, h2, h3, h4, h5⟩ := hx
  exact ⟨F1, F2, v, ws, h1, h2, R.ofDat x hd.1 h3, h4, Rs.ofDat xs hd.2 h5⟩
end
theorem R.data {E E' : Env} {x : V} {F : List Nat} {v : Value} (hd : dat x = true) (hΦ : ∀ b ∈ F, ∀ o u, E.Φ b o = some u → E'.Φ b o = some u) (hx : R x E F v) : R x E' F v :=
 R.free (E := E.dat) rfl x hΦ (R.ofDat x hd hx)
theorem mem_ix {α : Type} {n : Nat} {f : Nat → List α} {x : α} : x ∈ ix n f ↔ ∃ i, i < n ∧ x ∈ f i := by simp -implicitDefEqProofs -dsimp [ix]
theorem inSt_r (ys : List V) (i j : Nat) : inSt ys (.r i j) = rowAt ((yc (ys.getD i .un)).getD j .un) := by
 simp only [inSt]
 generalize ys.getD i .un = y
 cases y <;> simp only [yc] <;> cases j <;> simp -implicitDefEqProofs -dsimp [rowAt]
theorem passL_len {P : Program} {σ : St} : ∀ {xs ys : List V}, passL P σ xs ys → xs.length = ys.length
 | [], [], _ => rfl
 | [], _ :: _, h => h.elim
 | _ :: _, [], h => h.elim
 | x :: xs, y :: ys, h => by simp only [List.length_cons]; rw [passL_len h.2]
theorem passL_get {P : Program} {σ : St} : ∀ {xs ys : List V}, passL P σ xs ys → ∀ i, i < ys.length → pass P σ (xs.getD i .un) (ys.getD i .un)
 | [], [], _, i, hi => by simp at hi
 | [], _ :: _, h, _, _ => h.elim
 | _ :: _, [], h, _, _ => h.elim
 | x :: xs, y :: ys, h, 0, _ => h.1
 | x :: xs, y :: ys, h, i + 1, hi => passL_get h.2 i (by simpa using hi)
theorem passCs_len {P : Program} {σ : St} : ∀ {xs ys : List V}, passCs P σ xs ys → xs.length = ys.length
 | [], [], _ => rfl
 | [], _ :: _, h => h.elim
 | _ :: _, [], h => h.elim
 | x :: xs, y :: ys, h => by simp only [List.length_cons]; rw [passCs_len h.2]
theorem passCs_get {P : Program} {σ : St} : ∀ {xs ys : List V}, passCs P σ xs ys → ∀ i, i < ys.length → passC P σ (xs.getD i .un) (ys.getD i .un)
 | [], [], _, i, hi => by simp at hi
 | [], _ :: _, h, _, _ => h.elim
 | _ :: _, [], h, _, _ => h.elim
 | x :: xs, y :: ys, h, 0, _ => h.1
 | x :: xs, y :: ys, h, i + 1, hi => passCs_get h.2 i (by simpa using hi)
theorem pass_cells {P : Program} {σ : St} {x y : V} (h : pass P σ x y) : passCs P σ (xc σ x y) (yc y) := by
 unfold pass at h
 split at h
 ·split at h
  ·split at h
   ·rename_i hb
    simp only [xc, yc, hb, blkV]; exact h
   ·exact h.elim
  ·exact h.elim
 ·split at h
  ·simp only [xc, yc]; exact h
  ·exact h.elim
 ·rename_i hn1 hn2
  have e1 : yc y = [y] := by cases y <;> first | rfl | exact absurd rfl (hn1 _) | exact absurd rfl (hn2 _)
  have e2 : xc σ x y = [x] := by
   unfold xc
   split
   ·exact absurd rfl (hn1 _)
   ·exact absurd rfl (hn2 _)
   ·rfl
  rw [e1, e2]; exact ⟨h, trivial⟩
end Go.Proofs.YtlfblkekbcfjpaaGreatDoor
