/- Part of a proof: contracts and plain laws. -/
import Derived.Test.YtlfblkekbcfjpaaGreatDoorZ01
import Derived.Great.BuildSlice
import Derived.Laws.BytesString
set_option linter.unusedVariables false
set_option linter.unusedSimpArgs false
namespace Go.Proofs.YtlfblkekbcfjpaaGreatDoor
open Go.RowKit
theorem isUn_eq {x : V} (h : isUn x = true) : x = .un := by cases x <;> first | rfl | cases h
section
variable {C : Ctx} {E : Env} {cb : Comp → Option Nat} {Fc : Comp → List Nat} {σ : St} {w : World} {a : Act}
theorem Sim.cbt (h : Sim C E cb Fc σ w a) (i : Nat) : cb (.t i) = none ∧ Fc (.t i) = [] := by have := h.mem (.t i); simpa only [COk] using this
theorem tmp_upd {C : Ctx} {E E' : Env} {cb : Comp → Option Nat} {Fc : Comp → List Nat} {σ : St} {w : World} {a : Act} (h : Sim C E cb Fc σ w a) (hE : E.le E') {σ' : St} (hσ : ∀ i, σ' (.t i) = σ (.t i)) {d : Nat} {x : V} {F : List Nat} {v : Value} (hd : d < a.tmps.size) (hx : R x E' F v) :
  ∀ i, ∃ F, R ((upd σ' (.t d) x) (.t i)) E' F ((a.put (some d) v).tmps.getD i undef) := fun i => by
 simp only [Act.put]
 rw [getD_set _ _ _ _ hd]
 by_cases hi : i = d
 ·subst hi; rw [if_pos rfl, upd_self]; exact ⟨F, hx⟩
 ·rw [if_neg hi, upd_ne _ _ (by simp -implicitDefEqProofs -dsimp [hi]), hσ]
  obtain ⟨F, h1⟩ := h.tmp i
  exact ⟨F, R.mono hE _ h1⟩
theorem Sim.newB (h : Sim C E cb Fc σ w a) {d : Nat} {cs : List V} {F : List Nat} {arr : Array Value} {ty : TypeId} (hun : σ (.b d) = .un) (hd : d < a.tmps.size) (hcs : Rs cs E F arr.toList) :
  Held C (upd (upd σ (.b d) (.blk cs)) (.t d) (.pt d 0)) (w.alloc (.cells arr ty)) (a.put (some d) (.pointer (some ⟨w.heap.size, 0, none⟩))) := by
 have hμ : E.μ d = none := by have := h.mem (.b d); rw [hun] at this; exact this.2.2
 let E' : Env := { E with μ := fun i => if i = d then some w.heap.size else E.μ i }
 have hE : E.le E' := ⟨fun _ _ _ h => h, fun b g hg => by simp only [E']; split <;> simp_all, fun _ _ _ h => h, fun h => h⟩
 have hfrz : ∀ b o v, E.Φ b o = some v → b < w.heap.size := fun b o v e => World.block_lt_of_cell? w ⟨b, o, none⟩ (h.frz b o v e)
 have hold : ∀ b, b < w.heap.size → (w.alloc (.cells arr ty)).heap[b]? = w.heap[b]? := fun b hb => by
  show (w.heap.push _)[b]? = _
  rw [Array.getElem?_push, if_neg (by omega)]
 refine ⟨E', upd cb (.b d) (some w.heap.size), upd Fc (.b d) F, h.gen [.b d] ?_ ?_ hE ?_ ?_ ?_ (fun _ _ _ h => .inl h) ?_ ?_ rfl rfl rfl ?_ ?_ ?_ ?_ ?_ ?_ h.dfr (fun i hi => by
  simp only [List.mem_singleton, Comp.b.injEq] at hi
  subst hi
  first | (rw [upd_ne _ _ (by simp -implicitDefEqProofs -dsimp), upd_self]; simp -implicitDefEqProofs -dsimp) | (rw [upd_self]; simp -implicitDefEqProofs -dsimp))⟩
 ·intro c hc hct
  have hc' : c ≠ .b d := fun e => hc (by simp -implicitDefEqProofs -dsimp [e])
  rw [upd_ne _ _ (hct d), upd_ne _ _ hc', upd_ne _ _ hc', upd_ne _ _ hc']
  exact ⟨rfl, rfl, rfl⟩
 ·intro i
  rw [upd_ne _ _ (by simp -implicitDefEqProofs -dsimp), upd_ne _ _ (by simp -implicitDefEqProofs -dsimp)]; exact h.cbt i
 ·intro i hi hn
  have : i ≠ d := fun e => hi (by simp -implicitDefEqProofs -dsimp [e])
  simp only [E', if_neg this]; exact hn
 ·intro i j _ hn; exact hn
 ·intro b o v e
  have := h.frz b o v e
  rw [← this]
  simp only [World.cell?]
  rw [hold b (hfrz b o v e)]
 ·intro b hb _; exact hold b hb
 ·show w.heap.size ≤ (w.heap.push _).size
  simp -implicitDefEqProofs -dsimp
 ·exact tmp_upd h hE (fun i => upd_ne _ _ (by simp -implicitDefEqProofs -dsimp)) hd (F := []) (by unfold R; exact ⟨h.loc, rfl, w.heap.size, by simp -implicitDefEqProofs -dsimp [E'], rfl⟩)
 ·intro c hc
  simp only [List.mem_singleton] at hc
  subst hc
  rw [upd_ne _ _ (by simp -implicitDefEqProofs -dsimp), upd_self, upd_self, upd_self]
  exact ⟨arr, ty, w.heap.size, rfl, by simp -implicitDefEqProofs -dsimp [E'], heap_alloc_new w _, F, Rs.mono hE _ hcs⟩
 ·intro c g hg o
  by_cases hc : c = .b d
  ·subst hc
   rw [upd_self] at hg
   obtain rfl := Option.some.inj hg
   cases hv : E.Φ w.heap.size o with
   | none => rfl
   | some v => exact absurd (hfrz _ _ _ hv) (Nat.lt_irrefl _)
  ·rw [upd_ne _ _ hc] at hg; exact h.out c g hg o
 ·intro c hc y hy
  simp only [List.mem_singleton] at hc
  subst hc
  rw [upd_ne _ _ (by simp -implicitDefEqProofs -dsimp), upd_self, upd_self, upd_self] at hy
  simp only [exc, deep, Option.toList_some, Bool.false_eq_true, if_false, List.append_nil, List.mem_singleton] at hy
  subst hy
  exact ⟨.inr (.inl (Nat.le_refl _)), by show w.heap.size < (w.heap.push _).size; simp⟩
 ·intro c hc c' hc' hne
  simp only [List.mem_singleton] at hc hc'
  exact absurd (hc.trans hc'.symm) hne
 ·intro c hc
  simp only [List.mem_singleton] at hc
  subst hc
  rw [upd_ne _ _ (by simp -implicitDefEqProofs -dsimp), upd_self, upd_self, upd_self]
  simp -implicitDefEqProofs -dsimp [exc, deep]
theorem Sim.setB (h : Sim C E cb Fc σ w a) {b g : Nat} {cs cs' : List V} {F : List Nat} {arr arr' : Array Value} {ty : TypeId} (hb : σ (.b b) = .blk cs) (hg : cb (.b b) = some g) (hμ : E.μ b = some g)
  (hh : w.heap[g]? = some (.cells arr ty (0, 0))) (hcs : Rs cs' E F arr'.toList) : Held C (upd σ (.b b) (.blk cs')) (w.setRow g arr') a := by
 have hgl : g < w.heap.size := (Array.getElem?_eq_some_iff.1 hh).1
 refine ⟨E, cb, upd Fc (.b b) F, h.gen [.b b] ?_ ?_ (Env.le.rfl' E) ?_ ?_ ?_ (fun _ _ _ h => .inl h) ?_ ?_ rfl rfl rfl ?_ ?_ ?_ ?_ ?_ ?_ h.dfr (fun i hi => by
  simp only [List.mem_singleton, Comp.b.injEq] at hi
  subst hi
  first | (rw [upd_ne _ _ (by simp -implicitDefEqProofs -dsimp), upd_self]; simp -implicitDefEqProofs -dsimp) | (rw [upd_self]; simp -implicitDefEqProofs -dsimp))⟩
 ·intro c hc hct
  have hc' : c ≠ .b b := fun e => hc (by simp -implicitDefEqProofs -dsimp [e])
  rw [upd_ne _ _ hc', upd_ne _ _ hc']
  exact ⟨rfl, rfl, rfl⟩
 ·intro i
  rw [upd_ne _ _ (by simp -implicitDefEqProofs -dsimp)]; exact h.cbt i
 ·intro i _ hn; exact hn
 ·intro i j _ hn; exact hn
 ·intro b' o v e
  rw [cell_setRow_other w g arr' ⟨b', o, none⟩ (fun e' => by
   have := h.out _ g hg o
   rw [← show b' = g from e', e] at this; cases this)]
  exact h.frz b' o v e
 ·intro b' _ hne
  refine setRow_other w g b' arr' fun e => hne (.b b) (by simp -implicitDefEqProofs -dsimp) (mem_exc (by rw [hg, e]))
 ·simp -implicitDefEqProofs -dsimp
 ·intro i
  rw [upd_ne _ _ (by simp -implicitDefEqProofs -dsimp)]; exact h.tmp i
 ·intro c hc
  simp only [List.mem_singleton] at hc
  subst hc
  rw [upd_self, upd_self]
  exact ⟨arr', ty, g, hg, hμ, setRow_heap w g arr arr' ty _ hh, F, hcs⟩
 ·exact h.out
 ·intro c hc y hy
  simp only [List.mem_singleton] at hc
  subst hc
  rw [upd_self, upd_self, hg] at hy
  simp only [exc, deep, Option.toList_some, Bool.false_eq_true, if_false, List.append_nil, List.mem_singleton] at hy
  subst hy
  exact ⟨.inl ⟨.b b, by simp, mem_exc hg⟩, by simpa using hgl⟩
 ·intro c hc c' hc' hne
  simp only [List.mem_singleton] at hc hc'
  exact absurd (hc.trans hc'.symm) hne
 ·intro c hc
  simp only [List.mem_singleton] at hc
  subst hc
  rw [upd_self, upd_self, hg]
  simp -implicitDefEqProofs -dsimp [exc, deep]
end
end Go.Proofs.YtlfblkekbcfjpaaGreatDoor
namespace Go.Proofs.YtlfblkekbcfjpaaGreatDoor
open Go.RowKit
section
variable {C : Ctx} {E : Env} {cb : Comp → Option Nat} {Fc : Comp → List Nat} {σ : St} {w : World} {a : Act}
variable {P : Program} {g : Prop} {K : List (Comp × V) → List Comp → Prop} {next : Act → World → Prop} {Q : Exit → Act → World → Prop}
variable {dst : Option Tmp} {ty : TypeId} {pos : String} {after : Array Edge} {guard : Option (Nat × Bool)}
def Next (C : Ctx) (σ : St) (a : Act) (K : List (Comp × V) → List Comp → Prop) (next : Act → World → Prop) : Prop :=
 ∀ ws rd a' w', K ws rd → Held C (upds σ ws) w' a' → a'.tmps.size = a.tmps.size → next a' w'
theorem so_val (h : Sim C E cb Fc σ w a) (hd : okd a.tmps.size dst) {op : Op} {x : V} {F : List Nat} {v : Value} {rd : List Comp} (hn : Next C σ a K next)
  (hrun : (execOp a.eval ⟨dst, op, ty, pos, after, guard⟩).run P w = .ok (.value v) w) (hx : R x E F v) (hk : K (wr dst x) rd) : (Oper.mk dst op ty pos after guard).wp P a w next Q :=
 h.val hrun hx hd fun a' hh hs => hn _ _ a' w hk hh hs
theorem so_move (h : Sim C E cb Fc σ w a) (hd : okd a.tmps.size dst) (hn : Next C σ a K next) (x : Operand) (hk : wpo P g (.move x) dst σ K) : (Oper.mk dst (.move x) ty pos after guard).wp P a w next Q := by
 simp only [wpo] at hk
 obtain ⟨F, hx⟩ := h.sop x
 exact so_val h hd hn rfl hx hk
theorem so_assign (h : Sim C E cb Fc σ w a) (hd : okd a.tmps.size dst) (hn : Next C σ a K next) (x : Operand) (hk : wpo P g (.assign x) dst σ K) : (Oper.mk dst (.assign x) ty pos after guard).wp P a w next Q := by
 simp only [wpo] at hk
 obtain ⟨F, hx⟩ := h.sop x
 exact so_val h hd hn rfl hx hk
theorem so_alloc (h : Sim C E cb Fc σ w a) (hd : okd a.tmps.size dst) (hn : Next C σ a K next) (e : TypeId) (hk : wpo P g (.alloc e) dst σ K) : (Oper.mk dst (.alloc e) ty pos after guard).wp P a w next Q := by
 simp only [wpo] at hk
 split at hk
 ·rename_i T d hT
  obtain ⟨_, hun, hz, hok, hk⟩ := hk
  obtain ⟨v, h1, h2⟩ := (tyd_ok hT).zero w hz
  have hrun : (execOp a.eval ⟨some d, .alloc e, ty, pos, after, guard⟩).run P w = .ok (.value (.pointer (some ⟨w.heap.size, 0, none⟩))) (w.alloc (.cells v.cells e)) := by
   simp -implicitDefEqProofs -dsimp [execOp, Instr.alloc, newVar, newRow, newObj, h1, Sem.run]
  unfold Oper.wp
  rw [hrun, Oper.upon_value]
  refine hn _ _ _ _ hk (h.newB (F := []) (isUn_eq hun) hd ?_) (by simp -implicitDefEqProofs -dsimp [Act.put])
  rw [h2] at hok ⊢
  exact Rs_cv E _ hok
 ·exact hk.elim
theorem so_box (h : Sim C E cb Fc σ w a) (hd : okd a.tmps.size dst) (hn : Next C σ a K next) (e : TypeId) (x : Operand) (hk : wpo P g (.box e x) dst σ K) : (Oper.mk dst (.box e x) ty pos after guard).wp P a w next Q := by
 simp only [wpo] at hk
 split at hk
 ·rename_i d
  obtain ⟨_, hun, hok, hk⟩ := hk
  obtain ⟨F, hx⟩ := h.sop x
  have hrun : (execOp a.eval ⟨some d, .box e x, ty, pos, after, guard⟩).run P w = .ok (.value (.pointer (some ⟨w.heap.size, 0, none⟩))) (w.alloc (.cells (a.eval x).cells e)) := by
   simp -implicitDefEqProofs -dsimp [execOp, Instr.box, newVar, newRow, newObj, Sem.run]
  unfold Oper.wp
  rw [hrun, Oper.upon_value]
  exact hn _ _ _ _ hk (h.newB (isUn_eq hun) hd (R_cs hx hok)) (by simp -implicitDefEqProofs -dsimp [Act.put])
 ·exact hk.elim
theorem so_load (h : Sim C E cb Fc σ w a) (hP : C.P = P) (hg : g) (hd : okd a.tmps.size dst) (hn : Next C σ a K next) (t : TypeId) (x : Operand) (hk : wpo P g (.load t x) dst σ K) : (Oper.mk dst (.load t x) ty pos after guard).wp P a w next Q := by
 simp only [wpo] at hk
 split at hk
 ·rename_i T hT
  have hT := tyd_ok hT
  obtain ⟨F, hx⟩ := h.sop x
  have hex : ∀ v, (Instr.loadAt t (a.eval x)).run P w = .ok v w → (execOp a.eval ⟨dst, .load t x, ty, pos, after, guard⟩).run P w = .ok (.value v) w := fun v hv => by simp -implicitDefEqProofs -dsimp [execOp, hv]
  split at hk
  ·rename_i b o he
   rw [he] at hx
   split at hk
   ·rename_i cs hb
    obtain ⟨hs, hk⟩ := hk
    have hs := hs hg
    obtain ⟨gb, arr, ty', Fb, hv, _, _, hh, hcs, hcell⟩ := h.pt hx hb
    obtain ⟨F', h1⟩ := hcs.part (tAgg P t) (sz := T.sz) (o := o) hs
    refine so_val h hd hn (hex _ ?_) h1 hk
    rw [hv]
    have := run_loadAt (P := P) hT (w := w) (g := gb) (o := 0) (vs := arr.toList) (q := o) (fun j u hj => by rw [Nat.zero_add]; exact hcell j u hj) (by rw [hcs.len]; exact hs)
    rw [Nat.zero_add] at this
    exact this
   ·exact hk.elim
  ·rename_i i j m k o he
   rw [he] at hx
   split at hk
   ·rename_i d e xs hb
    split at hk
    ·rename_i Te hTe
     obtain ⟨hs, hk⟩ := hk
     obtain ⟨hk1, hok, hs'⟩ := hs hg
     clear hs
     obtain ⟨u, vs, k', A, c, h2, rfl, hinf, hk0, hown, hels, _, _, _, _, hA, _⟩ := h.row hb
     unfold R at hx
     obtain ⟨_, _, g', c', l, h3, hml, hok', hv⟩ := hx
     have h4 := Option.some.inj (h2.symm.trans h3)
     simp only [Value.slice.injEq] at h4
     obtain ⟨rfl, rfl, rfl⟩ := h4
     obtain ⟨g'', hg'', hcell⟩ := hA _ rfl
     simp only [Addr.mk.injEq, and_true] at hg''
     obtain rfl := hg''
     have hkk : k' = k := by
      have := (tyd_ok hTe).info
      rw [← hP, hinf] at this
      rw [← hk1]; exact Option.some.inj this
     subst hkk
     obtain ⟨F', v, hr, hsz, hone, hat⟩ := hels.get m hml
     have hcs := R_cs (R.mono (Env.dat_le E) _ hr) hok
     obtain ⟨F'', h1⟩ := hcs.part (tAgg P t) (sz := T.sz) (o := o) hs'
     refine so_val h hd hn (hex _ ?_) h1 hk
     rw [hv]
     refine run_loadAt (P := P) hT (w := w) (g := g') (o := m * k') (vs := v.cells.toList) (q := o) (fun j u hj => hcell _ _ (hat j u (by simpa using hj))) (by rw [hcs.len]; exact hs')
    ·exact hk.elim
   ·exact hk.elim
  ·rename_i cs he
   rw [he] at hx
   obtain ⟨hs, hk⟩ := hk
   have hs := hs hg
   unfold R at hx
   obtain ⟨b, off, vs, _, _, hv, hc, hcs⟩ := hx
   have hcs := Rs.mono (Env.dat_le E) _ hcs
   obtain ⟨F', h1⟩ := hcs.part (tAgg P t) (sz := T.sz) (o := 0) (by omega)
   refine so_val h hd hn (hex _ ?_) h1 hk
   rw [hv]
   exact run_loadAt (P := P) hT (w := w) (g := b) (o := off) (vs := vs) (q := 0) (fun j u hj => h.frz _ _ _ (hc j u hj)) (by rw [hcs.len]; omega)
  ·exact hk.elim
 ·exact hk.elim
theorem so_store (h : Sim C E cb Fc σ w a) (hg : g) (hd : okd a.tmps.size dst) (hn : Next C σ a K next) (t : TypeId) (x y : Operand) (hk : wpo P g (.store t x y) dst σ K) : (Oper.mk dst (.store t x y) ty pos after guard).wp P a w next Q := by
 simp only [wpo] at hk
 split at hk
 ·rename_i T hT
  have hT := tyd_ok hT
  obtain ⟨F, hx⟩ := h.sop x
  obtain ⟨F', hy⟩ := h.sop y
  split at hk
  ·rename_i b o he
   rw [he] at hx
   split at hk
   ·rename_i cs hb
    obtain ⟨_, hdn, hok, hlen, hs, hk⟩ := hk
    obtain ⟨gb, arr, ty', Fb, hv, hcb, hμ, hh, hcs, hcell⟩ := h.pt hx hb
    have hyc := R_cs hy hok
    have hsz : (a.eval y).cells.size = T.sz := by rw [← hlen, ← hyc.len]; simp -implicitDefEqProofs -dsimp
    have hl : arr.size = cs.length := by rw [← hcs.len]; simp -implicitDefEqProofs -dsimp
    have h1 := run_storeCells_at (P := P) gb o ty' (a.eval y).cells.toList 0 arr w hh (by simp only [Array.length_toList]; omega) hyc.one
    have hrun : (execOp a.eval ⟨dst, .store t x y, ty, pos, after, guard⟩).run P w = .ok .skip (w.setRow gb (arr.toList.take o ++ (a.eval y).cells.toList ++ arr.toList.drop (o + (a.eval y).cells.toList.length)).toArray) := by
     simp only [execOp, Instr.storeAt, Instr.sureAddr, hv, storeVar, Sem.run_bind, Sem.run_pure, Result.andThen_ok, hT.size w, hsz, ne_eq, not_true_eq_false, if_false]
     rw [h1]; rfl
    unfold Oper.wp
    rw [hrun, Oper.upon_skip]
    subst hdn
    obtain ⟨G1, hG1⟩ := hcs.take o
    obtain ⟨G2, hG2⟩ := hcs.drop (o + (sop σ y).cs.length)
    refine hn _ _ _ _ hk (h.setB (cs' := splc cs o (sop σ y).cs) (F := G1 ++ F' ++ G2) hb hcb hμ hh ?_) rfl
    unfold splc
    simp only [Array.length_toList]
    rw [hlen] at hG2 ⊢
    rw [hsz]
    exact (hG1.append hyc).append hG2
   ·exact hk.elim
  ·exact hk.elim
 ·exact hk.elim
theorem so_nilCheck (h : Sim C E cb Fc σ w a) (hd : okd a.tmps.size dst) (hn : Next C σ a K next) (x : Operand) (hk : wpo P g (.nilCheck x) dst σ K) : (Oper.mk dst (.nilCheck x) ty pos after guard).wp P a w next Q := by
 simp only [wpo] at hk
 obtain ⟨F, hx⟩ := h.sop x
 split at hk
 ·rename_i b o he
  rw [he] at hx
  have hx' := hx
  unfold R at hx'
  obtain ⟨_, _, gb, _, hv⟩ := hx'
  exact so_val h hd hn (by simp -implicitDefEqProofs -dsimp [execOp, hv]) hx hk
 ·rename_i cs he
  rw [he] at hx
  have hx' := hx
  unfold R at hx'
  obtain ⟨b, off, vs, _, _, hv, _⟩ := hx'
  exact so_val h hd hn (by simp -implicitDefEqProofs -dsimp [execOp, hv]) hx hk
 ·rename_i f cs he
  rw [he] at hx
  have hx' := hx
  unfold R at hx'
  obtain ⟨vs, hv, _⟩ := hx'
  exact so_val h hd hn (by simp -implicitDefEqProofs -dsimp [execOp, hv]) hx hk
 ·exact hk.elim
theorem so_binOp (h : Sim C E cb Fc σ w a) (hg : g) (hd : okd a.tmps.size dst) (hn : Next C σ a K next) (op : BinOp) (t t' : TypeId) (x y : Operand) (hk : wpo P g (.binOp op t x y t') dst σ K) : (Oper.mk dst (.binOp op t x y t') ty pos after guard).wp P a w next Q := by
 simp only [wpo] at hk
 obtain ⟨F, hx⟩ := h.sop x
 obtain ⟨F', hy⟩ := h.sop y
 obtain ⟨s, r, ⟨hs, hk⟩, h1, hrun⟩ := binV_run (P := P) (w := w) (t := t) hx hy x y hk
 exact so_val h hd hn (by simp only [execOp, Sem.run_bind, hrun (hs hg)]; rfl) (R_sc_mk h1) hk
theorem so_unOp (h : Sim C E cb Fc σ w a) (hd : okd a.tmps.size dst) (hn : Next C σ a K next) (op : UnOp) (t : TypeId) (x : Operand) (hk : wpo P g (.unOp op t x) dst σ K) : (Oper.mk dst (.unOp op t x) ty pos after guard).wp P a w next Q := by
 simp only [wpo] at hk
 obtain ⟨F, hx⟩ := h.sop x
 unfold unV at hk
 split at hk
 ·rename_i k n he
  rw [he] at hx
  have hv := R_sc hx
  rw [wrK_eq] at hk
  exact so_val h hd hn (by simp -implicitDefEqProofs -dsimp [execOp, hv, Op.unary, Op.intArith]) (R_sc_mk rfl) hk
 ·rename_i b he
  rw [he] at hx
  have hv := R_sc hx
  exact so_val h hd hn (by simp -implicitDefEqProofs -dsimp [execOp, hv, Op.unary]) (R_sc_mk rfl) hk
 ·exact hk.elim
theorem so_makeFunc (h : Sim C E cb Fc σ w a) (hd : okd a.tmps.size dst) (hn : Next C σ a K next) (f : FuncId) (fs cs : Array Operand) (hk : wpo P g (.makeFunc (.func f) fs cs) dst σ K) : (Oper.mk dst (.makeFunc (.func f) fs cs) ty pos after guard).wp P a w next Q := by
 simp only [wpo] at hk
 obtain ⟨hfs, hok, hk⟩ := hk
 have hfs : fs = #[] := by simpa using hfs
 subst hfs
 have : ∀ l : List Operand, (∀ x ∈ l, (sop σ x).ok = true ∧ ∀ cs, sop σ x ≠ .ag cs) → ∃ F, Rs (l.map (sop σ)) E F (l.map a.eval) := by
  intro l
  induction l with
  | nil => intro _; exact ⟨[], by simp only [List.map_nil]; unfold Rs; exact ⟨rfl, rfl⟩⟩
  | cons x l ih =>
   intro hl
   obtain ⟨F, hF⟩ := ih fun y hy => hl y (List.mem_cons_of_mem _ hy)
   obtain ⟨F', hx⟩ := h.sop x
   have := hl x (List.mem_cons_self ..)
   exact ⟨F' ++ F, by simp only [List.map_cons]; unfold Rs; exact ⟨F', F, _, _, rfl, rfl, hx, R_one hx this.1 this.2, hF⟩⟩
 obtain ⟨F, hF⟩ := this cs.toList hok
 refine so_val h hd hn (v := .func (.func f) #[] (cs.map a.eval)) (by simp -implicitDefEqProofs -dsimp [execOp, Instr.makeFunc]) (F := F) ?_ hk
 unfold R
 exact ⟨_, rfl, by simpa using hF⟩
theorem so_extract (h : Sim C E cb Fc σ w a) (hg : g) (hd : okd a.tmps.size dst) (hn : Next C σ a K next) (x : Operand) (i : Nat) (hk : wpo P g (.extract x i) dst σ K) : (Oper.mk dst (.extract x i) ty pos after guard).wp P a w next Q := by
 simp only [wpo] at hk
 obtain ⟨F, hx⟩ := h.sop x
 split at hk
 ·rename_i cs he
  rw [he] at hx
  unfold R at hx
  obtain ⟨_, vs, hv, h1⟩ := hx
  obtain ⟨hi, hk⟩ := hk
  have hget : ∀ {xs : List V} {F : List Nat} {vs : List Value} {n : Nat}, Rt xs E F vs → n < xs.length → ∃ F' v, vs[n]? = some v ∧ R (xs.getD n .un) E F' v := by
   intro xs
   induction xs with
   | nil => intro F vs n _ hn; simp at hn
   | cons y ys ih =>
    intro F vs n hr hn
    unfold Rt at hr
    obtain ⟨F1, F2, v, ws, rfl, rfl, h3, h4⟩ := hr
    cases n with
    | zero => exact ⟨F1, v, rfl, by simpa using h3⟩
    | succ n =>
     obtain ⟨F', u, h5, h6⟩ := ih h4 (n := n) (by simpa using hn)
     exact ⟨F', u, by simpa using h5, by simpa using h6⟩
  obtain ⟨F', v, h2, h3⟩ := hget h1 (hi hg)
  refine so_val h hd hn ?_ h3 hk
  have h2' : vs[i]? = some v := by simpa using h2
  simp -implicitDefEqProofs -dsimp [execOp, Instr.extract, hv, h2']
 ·exact hk.elim
end
end Go.Proofs.YtlfblkekbcfjpaaGreatDoor
namespace Go.Proofs.YtlfblkekbcfjpaaGreatDoor
open Go.RowKit
section
variable {C : Ctx} {E : Env} {cb : Comp → Option Nat} {Fc : Comp → List Nat} {σ : St} {w : World} {a : Act}
variable {P : Program} {g : Prop} {K : List (Comp × V) → List Comp → Prop} {next : Act → World → Prop} {Q : Exit → Act → World → Prop}
variable {dst : Option Tmp} {ty : TypeId} {pos : String} {after : Array Edge} {guard : Option (Nat × Bool)}
theorem TyOk.fld {t : TypeId} {T : TD} (h : TyOk P t T) {f o s : Nat} {ag : Bool} (hf : T.fs[f]? = some (o, ag, s)) :
  ∃ fs fd, P.underlying t = some (.struct fs) ∧ fs[f]? = some fd ∧ fd.offset = o ∧ ag = tAgg P fd.type ∧ s = fsz P fd.type := by
 obtain ⟨d, i, h1, h2, _, _, _, h3, _⟩ := h.ex
 rw [h3] at hf
 cases d with
 | struct fs =>
  simp only [List.getElem?_map, Array.getElem?_toList, Option.map_eq_some_iff, Prod.mk.injEq] at hf
  obtain ⟨fd, h4, h5, h6, h7⟩ := hf
  exact ⟨fs, fd, h1, h4, h5, h6.symm, h7.symm⟩
 | _ => simp at hf
theorem fsz_some {t : TypeId} {s : Nat} (h : s = fsz P t) (hs : s ≠ 0) : ∃ d i, P.underlying t = some d ∧ P.info? t = some i ∧ i.size = s := by
 unfold fsz at h
 split at h
 ·rename_i i d h1 h2; exact ⟨d, i, h2, h1, h.symm⟩
 ·exact absurd h hs
theorem size_of_info {t : TypeId} {s : Nat} (w : World) (h : s = fsz P t) (hs : s ≠ 0) : (sizeOf t).run P w = .ok s w := by
 obtain ⟨d, i, _, hi, hsz⟩ := fsz_some h hs
 simp -implicitDefEqProofs -dsimp [sizeOf, typeInfo, hi, hsz]
theorem so_fieldAddr (h : Sim C E cb Fc σ w a) (hg : g) (hd : okd a.tmps.size dst) (hn : Next C σ a K next) (s : TypeId) (x : Operand) (f : Nat) (hk : wpo P g (.fieldAddr s x f) dst σ K) : (Oper.mk dst (.fieldAddr s x f) ty pos after guard).wp P a w next Q := by
 simp only [wpo] at hk
 split at hk
 ·rename_i T hT
  split at hk
  ·rename_i o ag sz hf
   obtain ⟨fs, fd, h1, h2, h3, _, h4⟩ := (tyd_ok hT).fld hf
   obtain ⟨hs0, hk⟩ := hk
   obtain ⟨F, hx⟩ := h.sop x
   have hrun : ∀ gb q, a.eval x = .pointer (some ⟨gb, q, none⟩) → (execOp a.eval ⟨dst, .fieldAddr s x f, ty, pos, after, guard⟩).run P w = .ok (.value (.pointer (some ⟨gb, q + o, none⟩))) w := fun gb q hv => by
    simp only [execOp, Instr.fieldAt, hv, Instr.sureAddr, fieldPlace, Sem.run_bind, Sem.run_pure, Result.andThen_ok, run_underlying h1, h2, size_of_info w h4 hs0, hs0, if_false, h3, Addr.add_plain]
   split at hk
   ·rename_i b o' he
    rw [he] at hx
    unfold R at hx
    obtain ⟨hl, hF, gb, hμ, hv⟩ := hx
    exact so_val h hd hn (hrun _ _ hv) (F := []) (by unfold R; exact ⟨hl, rfl, gb, hμ, rfl⟩) hk
   ·rename_i i j m k o' he
    rw [he] at hx
    unfold R at hx
    obtain ⟨hl, hF, gb, c, l, h5, h6, h7, hv⟩ := hx
    obtain ⟨hok, hk⟩ := hk
    exact so_val h hd hn (hrun _ _ hv) (F := []) (by unfold R; exact ⟨hl, rfl, gb, c, l, h5, h6, hok hg, by rw [Nat.add_assoc]⟩) hk
   ·rename_i cs he
    rw [he] at hx
    unfold R at hx
    obtain ⟨b, off, vs, _, _, hv, h5, h6⟩ := hx
    obtain ⟨F', h7⟩ := h6.drop o
    refine so_val h hd hn (hrun _ _ hv) (F := b :: F') (by unfold R; exact ⟨b, off + o, vs.drop o, F', rfl, rfl, fun j u hj => by rw [Nat.add_assoc]; exact h5 _ _ (by simpa using hj), h7⟩) hk
   ·exact hk.elim
  ·exact hk.elim
 ·exact hk.elim
theorem run_part {t : TypeId} {s : Nat} {ag : Bool} {cs : List V} {vs : Array Value} {F : List Nat} {o : Nat} (w : World) (hag : ag = tAgg P t) (hs : s = fsz P t) (hs0 : s ≠ 0)
  (hcs : Rs cs E F vs.toList) (hl : o + s ≤ cs.length) : ∃ F' v, (part t vs o).run P w = .ok v w ∧ R (partV ag s o cs) E F' v := by
 obtain ⟨d, i, hd, hi, hsi⟩ := fsz_some hs hs0
 obtain ⟨F', h1⟩ := hcs.part ag (sz := s) (o := o) (by omega)
 refine ⟨F', _, ?_, h1⟩
 have hsz : (sizeOf t).run P w = .ok s w := by simp -implicitDefEqProofs -dsimp [sizeOf, typeInfo, hi, hsi]
 have hagg : (isAgg t).run P w = .ok ag w := by
  rw [hag]
  simp only [isAgg, tAgg, hd, isAggD, Sem.run_bind, run_underlying hd, Result.andThen_ok]
  cases d <;> rfl
 have hlen : vs.size = cs.length := by rw [← hcs.len]; simp -implicitDefEqProofs -dsimp
 simp only [part, Sem.run_bind, hagg, Result.andThen_ok]
 cases ag
 ·have hov : o < vs.size := by omega
  simp -implicitDefEqProofs -dsimp [List.getD, hov]
 ·simp only [if_true, Sem.run_bind, hsz, Result.andThen_ok, Sem.run_pure]
  congr 2
  apply Array.ext'
  simp -implicitDefEqProofs -dsimp [List.take_drop]
theorem so_field (h : Sim C E cb Fc σ w a) (hg : g) (hd : okd a.tmps.size dst) (hn : Next C σ a K next) (s : TypeId) (x : Operand) (f : Nat) (hk : wpo P g (.field s x f) dst σ K) : (Oper.mk dst (.field s x f) ty pos after guard).wp P a w next Q := by
 simp only [wpo] at hk
 split at hk
 ·rename_i T hT
  split at hk
  ·rename_i o ag sz cs hf he
   obtain ⟨fs, fd, h1, h2, h3, h4, h5⟩ := (tyd_ok hT).fld hf
   obtain ⟨F, hx⟩ := h.sop x
   rw [he] at hx
   unfold R at hx
   obtain ⟨vs, hv, hcs⟩ := hx
   obtain ⟨hs0, hl, hk⟩ := hk
   obtain ⟨F', v, h6, h7⟩ := run_part (P := P) (t := fd.type) w h4 h5 hs0 hcs (hl hg)
   refine so_val h hd hn ?_ h7 hk
   simp only [execOp, Instr.field, hv, asAgg, Sem.run_bind, Sem.run_pure, Result.andThen_ok, run_underlying h1, h2, h3, h6]
  ·exact hk.elim
 ·exact hk.elim
end
end Go.Proofs.YtlfblkekbcfjpaaGreatDoor
namespace Go.Proofs.YtlfblkekbcfjpaaGreatDoor
open Go.RowKit
theorem TyOk.kdArray {P : Program} {t : TypeId} {T : TD} (h : TyOk P t T) {m : Nat} (hk : T.kd = .array m) : P.underlying t = some (.array m T.el) := by
 obtain ⟨d, i, h1, h2, _, _, h3, _, h4, _⟩ := h.ex
 rw [hk] at h3
 cases d <;> simp at h3
 subst h3; simp at h4; rw [h1, h4]
theorem TyOk.kdSlice {P : Program} {t : TypeId} {T : TD} (h : TyOk P t T) (hk : T.kd = .slice) : P.underlying t = some (.slice T.el) := by
 obtain ⟨d, i, h1, h2, _, _, h3, _, h4, _⟩ := h.ex
 rw [hk] at h3
 cases d <;> simp at h3
 simp at h4; rw [h1, h4]
theorem TyOk.kdStr {P : Program} {t : TypeId} {T : TD} (h : TyOk P t T) (hk : T.kd = .str) : P.underlying t = some .string := by
 obtain ⟨d, i, h1, h2, _, _, h3, _⟩ := h.ex
 rw [hk] at h3
 cases d <;> simp at h3
 exact h1
theorem TyOk.kdInt {P : Program} {t : TypeId} {T : TD} (h : TyOk P t T) {k : IntKind} (hk : T.kd = .int k) : P.underlying t = some (.int k) := by
 obtain ⟨d, i, h1, h2, _, _, h3, _⟩ := h.ex
 rw [hk] at h3
 cases d <;> simp at h3
 rw [h3]; exact h1
theorem slTy_ok {P : Program} {t e : TypeId} {Te : TD} (h : slTy P t = some (e, Te)) : P.underlying t = some (.slice e) ∧ TyOk P e Te := by
 unfold slTy at h
 split at h
 ·rename_i T hT
  split at h
  ·rename_i hk
   simp only [Option.map_eq_some_iff, Prod.mk.injEq] at h
   obtain ⟨Te', h1, rfl, rfl⟩ := h
   exact ⟨(tyd_ok hT).kdSlice hk, tyd_ok h1⟩
  ·cases h
 ·cases h
theorem arTy_ok {P : Program} {t e : TypeId} {m : Nat} {Te : TD} (h : arTy P t = some (m, e, Te)) : P.underlying t = some (.array m e) ∧ TyOk P e Te := by
 unfold arTy at h
 split at h
 ·rename_i T hT
  split at h
  ·rename_i m' hk
   simp only [Option.map_eq_some_iff, Prod.mk.injEq] at h
   obtain ⟨Te', h1, rfl, rfl, rfl⟩ := h
   exact ⟨(tyd_ok hT).kdArray hk, tyd_ok h1⟩
  ·cases h
 ·cases h
theorem isStr_ok {P : Program} {t : TypeId} (h : isStr P t = true) : P.underlying t = some .string := by
 unfold isStr at h
 split at h
 ·rename_i T hT
  split at h
  ·rename_i hk; exact (tyd_ok hT).kdStr hk
  ·cases h
 ·cases h
theorem isU8_ok {P : Program} {t : TypeId} {T : TD} (h : TyOk P t T) (hk : isU8 T.kd = true) : P.underlying t = some (.int .u8) := by
 unfold isU8 at hk
 split at hk
 ·rename_i h1; exact h.kdInt h1
 ·cases hk
section
variable {C : Ctx} {E : Env} {cb : Comp → Option Nat} {Fc : Comp → List Nat} {σ : St} {w : World} {a : Act}
variable {P : Program} {g : Prop} {K : List (Comp × V) → List Comp → Prop} {next : Act → World → Prop} {Q : Exit → Act → World → Prop}
variable {dst : Option Tmp} {ty : TypeId} {pos : String} {after : Array Edge} {guard : Option (Nat × Bool)}
theorem R_pi_at {xs : List V} {F : List Nat} {v : Value} (hx : R (.sl xs) E F v) {n : Nat} {s : Nat} (hn : n < xs.length) (hok : (xs.getD n .un).ok = true) (hs : (xs.getD n .un).cs.length = s) :
  ∃ b off c F', v = .slice (some ⟨b, off, none⟩) xs.length c ∧ R (.pi (xs.getD n .un).cs) E F' (.pointer (some ⟨b, off + n * s, none⟩)) := by
 unfold R at hx
 obtain ⟨A, c, rfl, h1, h2, h3⟩ := hx
 rcases h3 with ⟨rfl, _⟩ | ⟨b, off, F', vs, k, rfl, _, h4, h5⟩
 ·simp at hn
 ·obtain ⟨F'', u, h6, h7, h8, h9⟩ := h5.get n hn
  have hcs := R_cs h6 hok
  have hk : k = s := by rw [← h7, ← hs, ← hcs.len]; simp -implicitDefEqProofs -dsimp
  subst hk
  refine ⟨b, off, c, b :: F'', rfl, ?_⟩
  unfold R
  refine ⟨b, off + n * k, u.cells.toList, F'', rfl, rfl, fun j u' hj => ?_, hcs⟩
  rw [Nat.add_assoc]
  exact h4 _ _ (h9 j u' (by simpa using hj))
theorem run_indexAt_slice {t e : TypeId} {Te : TD} (ht : P.underlying t = some (.slice e)) (hTe : TyOk P e Te) {b off l c : Nat} {k : IntKind} {n : Int} (h0 : 0 ≤ n) (hn : n < l) (w : World) :
  (Instr.indexAt t (.slice (some ⟨b, off, none⟩) l c) (.int k n)).run P w = .ok (.pointer (some ⟨b, off + n.toNat * Te.sz, none⟩)) w := by
 simp only [Instr.indexAt, asIntOf, Sem.run_bind, Sem.run_pure, Result.andThen_ok, run_underlying ht, Bool.and_false]
 simp only [h0, hn, and_self, if_true, Sem.run_bind, hTe.size w, Result.andThen_ok, Sem.run_pure, Addr.add_plain]
theorem so_indexAddr (h : Sim C E cb Fc σ w a) (hg : g) (hd : okd a.tmps.size dst) (hn : Next C σ a K next) (t : TypeId) (x i : Operand) (hk : wpo P g (.indexAddr t x i) dst σ K) : (Oper.mk dst (.indexAddr t x i) ty pos after guard).wp P a w next Q := by
 simp only [wpo] at hk
 obtain ⟨F, hx⟩ := h.sop x
 obtain ⟨F2, hi⟩ := h.sop i
 have hex : ∀ v, (Instr.indexAt t (a.eval x) (a.eval i)).run P w = .ok v w → (execOp a.eval ⟨dst, .indexAddr t x i, ty, pos, after, guard⟩).run P w = .ok (.value v) w := fun v hv => by simp -implicitDefEqProofs -dsimp [execOp, hv]
 have fro : ∀ {xs : List V} {F : List Nat} {e : TypeId} {Te : TD} {k : IntKind} {n : Int} {rd : List Comp}, R (.sl xs) E F (a.eval x) → slTy P t = some (e, Te) → a.eval i = .int k n →
   ((0 ≤ n ∧ n < xs.length ∧ (xs.getD n.toNat .un).ok = true ∧ (xs.getD n.toNat .un).cs.length = Te.sz)) → K (wr dst (.pi (xs.getD n.toNat .un).cs)) rd → (Oper.mk dst (.indexAddr t x i) ty pos after guard).wp P a w next Q := by
  intro xs F e Te k n rd hx hT hi hc hk
  obtain ⟨h0, h1, h2, h3⟩ := hc
  obtain ⟨b, off, c, F', hv, hr⟩ := R_pi_at hx (n := n.toNat) (by omega) h2 h3
  refine so_val h hd hn (hex _ ?_) hr hk
  rw [hv, hi]
  exact run_indexAt_slice (slTy_ok hT).1 (slTy_ok hT).2 h0 h1 w
 split at hk
 ·rename_i k n he
  rw [he] at hi
  have hi := R_sc hi
  split at hk
  ·rename_i xs he
   rw [he] at hx
   split at hk
   ·rename_i e Te hT
    exact fro hx hT hi (hk.1 hg) hk.2
   ·exact hk.elim
  ·rename_i p q he
   rw [he] at hx
   have hx' := hx
   unfold R at hx'
   obtain ⟨hl, _, hρ, _⟩ := hx'
   split at hk
   ·rename_i d e xs e' Te hb hT
    obtain ⟨hc, hk⟩ := hk
    obtain ⟨h0, h1, rfl, h2⟩ := hc hg
    obtain ⟨u, vs, k', A, c, h3, rfl, hinf, hk0, hown, hels, _, h4, h5, h6, hA, _⟩ := h.row hb
    have hv := Option.some.inj (hρ.symm.trans h3)
    cases A with
    | none => have := h6 rfl; omega
    | some A =>
     obtain ⟨gb, rfl, _⟩ := hA _ rfl
     refine so_val h hd hn (hex _ ?_) (F := []) (v := .pointer (some ⟨gb, n.toNat * Te.sz, none⟩)) ?_ hk
     ·rw [hv, hi, run_indexAt_slice (slTy_ok hT).1 (slTy_ok hT).2 h0 h1 w, Nat.zero_add]
     ·unfold R
      exact ⟨hl, rfl, gb, c, xs.length, h3, by omega, h2, by rw [Nat.add_zero]⟩
   ·rename_i xs e' Te hb hT
    have h2 := h.mem (.r p q)
    rw [hb] at h2
    obtain ⟨_, u, h3, _, h4⟩ := h2
    obtain rfl := Option.some.inj (hρ.symm.trans h3)
    exact fro h4 hT hi (hk.1 hg) hk.2
   ·exact hk.elim
  ·rename_i b o he
   rw [he] at hx
   split at hk
   ·rename_i m e Te hT
    obtain ⟨hc, hk⟩ := hk
    obtain ⟨h0, h1⟩ := hc hg
    unfold R at hx
    obtain ⟨hl, _, gb, hμ, hv⟩ := hx
    obtain ⟨hu, hTe⟩ := arTy_ok hT
    refine so_val h hd hn (hex _ ?_) (F := []) (v := .pointer (some ⟨gb, o + n.toNat * Te.sz, none⟩)) (by unfold R; exact ⟨hl, rfl, gb, hμ, rfl⟩) hk
    rw [hv, hi]
    simp only [Instr.indexAt, asIntOf, Sem.run_bind, Sem.run_pure, Result.andThen_ok, run_underlying hu, Instr.sureAddr]
    simp only [h0, h1, and_self, if_true, Sem.run_bind, hTe.size w, Result.andThen_ok, Sem.run_pure, Addr.add_plain]
   ·exact hk.elim
  ·exact hk.elim
 ·exact (hk.1 hg).elim
 ·exact hk.elim
theorem so_index (h : Sim C E cb Fc σ w a) (hg : g) (hd : okd a.tmps.size dst) (hn : Next C σ a K next) (t : TypeId) (x i : Operand) (hk : wpo P g (.index t x i) dst σ K) : (Oper.mk dst (.index t x i) ty pos after guard).wp P a w next Q := by
 simp only [wpo] at hk
 obtain ⟨F, hx⟩ := h.sop x
 obtain ⟨F2, hi⟩ := h.sop i
 have hex : ∀ v, (Instr.index t (a.eval x) (a.eval i)).run P w = .ok v w → (execOp a.eval ⟨dst, .index t x i, ty, pos, after, guard⟩).run P w = .ok (.value v) w := fun v hv => by simp -implicitDefEqProofs -dsimp [execOp, hv]
 split at hk
 ·rename_i k n he
  rw [he] at hi
  have hi := R_sc hi
  split at hk
  ·rename_i s he
   rw [he] at hx
   have hx := R_sc hx
   obtain ⟨hT, hc, hk⟩ := hk
   obtain ⟨h0, h1⟩ := hc hg
   refine so_val h hd hn (hex _ ?_) (R_sc_mk rfl) hk
   have hlt : n.toNat < s.size := by omega
   have hlt' : n.toNat < s.toList.length := by rw [ByteArray.toList_eq]; simpa using hlt
   have hget : s[n.toNat]? = some (s.toList.getD n.toNat 0) := by
    rw [getElem?_pos s n.toNat hlt]
    congr 1
    have : s.data.toList[n.toNat]? = some (s.data[n.toNat]'hlt) := by
     rw [Array.getElem?_toList]; exact Array.getElem?_eq_getElem hlt
    simp only [List.getD, ByteArray.toList_eq, this]
    rfl
   rw [hx, hi]
   simp only [Instr.index, asIntOf, Sem.run_bind, Sem.run_pure, Result.andThen_ok, run_underlying (isStr_ok hT), h0, if_true, hget]
  ·rename_i cs he
   rw [he] at hx
   unfold R at hx
   obtain ⟨vs, hv, hcs⟩ := hx
   split at hk
   ·rename_i m e Te hT
    obtain ⟨hs0, hc, hk⟩ := hk
    obtain ⟨h0, h1, h2⟩ := hc hg
    obtain ⟨hu, hTe⟩ := arTy_ok hT
    have hsz : Te.sz = fsz P e := by
     obtain ⟨d, i, h3, h4, h5, _⟩ := hTe.ex
     simp -implicitDefEqProofs -dsimp [fsz, h3, h4, h5]
    obtain ⟨F', v, h6, h7⟩ := run_part (P := P) (t := e) w rfl hsz hs0 hcs h2
    refine so_val h hd hn (hex _ ?_) h7 hk
    rw [hv, hi]
    simp only [Instr.index, asIntOf, Sem.run_bind, Sem.run_pure, Result.andThen_ok, run_underlying hu]
    simp only [h0, h1, and_self, if_true, Sem.run_bind, hTe.size w, Result.andThen_ok, h6]
   ·exact hk.elim
  ·exact hk.elim
 ·exact hk.elim
end
end Go.Proofs.YtlfblkekbcfjpaaGreatDoor
