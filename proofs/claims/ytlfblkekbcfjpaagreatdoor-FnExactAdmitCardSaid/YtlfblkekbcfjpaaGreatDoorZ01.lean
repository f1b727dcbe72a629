/- Part of a proof: contracts and plain laws. -/
import Derived.Test.YtlfblkekbcfjpaaGreatDoorZ00
set_option linter.unusedVariables false
set_option linter.unusedSimpArgs false
namespace Go.Proofs.YtlfblkekbcfjpaaGreatDoor
open Go.RowKit
def isRow : V → Bool
 | .row .. => true
 | _ => false
def blkV : V → List V
 | .blk cs => cs
 | _ => []
def ix {α : Type} (n : Nat) (f : Nat → List α) : List α := (List.range n).flatMap f
def xc (σ : St) : V → V → List V
 | .pt b _, .blk _ => blkV (σ (.b b))
 | .ag xs, .ag _ => xs
 | x, _ => [x]
def yc : V → List V
 | .blk ys => ys
 | .ag ys => ys
 | y => [y]
def ogB (i : Nat) : V → V → List (Comp × Comp)
 | .pt b _, .blk _ => [(.b i, .b b)]
 | _, _ => []
def ogR (i j : Nat) : V → V → List (Comp × Comp)
 | .own p q, .row .. => [(.r i j, .r p q)]
 | _, _ => []
def og (σ : St) (xs ys : List V) : List (Comp × Comp) :=
 ix ys.length fun i => ogB i (xs.getD i .un) (ys.getD i .un) ++ ix (yc (ys.getD i .un)).length fun j => ogR i j ((xc σ (xs.getD i .un) (ys.getD i .un)).getD j .un) ((yc (ys.getD i .un)).getD j .un)
def lnC (σ : St) : V → V → List Comp
 | .own p q, .sl _ => if isRow (σ (.r p q)) then [.r p q] else []
 | _, _ => []
def ln (σ : St) (xs ys : List V) : List Comp :=
 ix ys.length fun i => ix (yc (ys.getD i .un)).length fun j => lnC σ ((xc σ (xs.getD i .un) (ys.getD i .un)).getD j .un) ((yc (ys.getD i .un)).getD j .un)
def ownC : V → Bool
 | .sc _ | .nil | .un => true
 | .row d _ _ => d
 | _ => false
def ownV (y : V) : Bool := (yc y).all ownC
def okC : V → Bool
 | .row .. => true
 | x => dat x
def okR : V → Bool
 | .ag cs => cs.all okC
 | x => okC x
def outCs (d : Nat) : Nat → List V → List V
 | _, [] => []
 | j, .row .. :: cs => .own d j :: outCs d (j + 1) cs
 | j, x :: cs => x :: outCs d (j + 1) cs
def outT (d j : Nat) : V → V
 | .row .. => .own d j
 | .ag cs => .ag (outCs d j cs)
 | x => x
def resT (d : Nat) : Nat → List V → List V
 | _, [] => []
 | q, r :: rs => outT d (100 * q) r :: resT d (q + 1) rs
def resV' (d : Nat) : List V → V
 | [r] => outT d 0 r
 | rs => .tu (resT d 0 rs)
def triR (d k i j : Nat) : V → List (Comp × Comp × V)
 | .row a e zs => [(.r d (k + j), .r i j, .row a e zs)]
 | _ => []
def triB (d i : Nat) : V → V → List (Comp × Comp × V)
 | .pt b _, .blk cs => (.b b, .b i, .blk (outCs d (10000 + 100 * i) cs)) :: ix cs.length fun j => triR d (10000 + 100 * i) i j (cs.getD j .un)
 | _, _ => []
def tri (d : Nat) (xs outs rs : List V) : List (Comp × Comp × V) :=
 (ix outs.length fun i => triB d i (xs.getD i .un) (outs.getD i .un)) ++
 ix rs.length fun q => ix (yc (rs.getD q .un)).length fun j => triR d (100 * q) (outs.length + q) j ((yc (rs.getD q .un)).getD j .un)
def okO : List V → List V → Bool
 | .blk _ :: ys, .blk cs :: os => cs.all okC && okO ys os
 | .blk _ :: _, _ :: _ => false
 | _ :: ys, .un :: os => okO ys os
 | [], [] => true
 | _, _ => false
def rdx (σ : St) (xs ys : List V) : List Comp :=
 ix ys.length fun i => (match xs.getD i .un with | .pt b _ => [.b b] | _ => []) ++ (xc σ (xs.getD i .un) (ys.getD i .un)).flatMap refC
def callK (g : Prop) (xs ys outs rs : List V) (d : Option Nat) (σ : St) (K : List (Comp × V) → List Comp → Prop) : Prop :=
 let o := og σ xs ys
 let l := ln σ xs ys
 let al := rs.all ownV && outs.all ownV
 let t := tri (d.getD 0) xs outs rs
 let fz := if al then [] else l
 let mv := (o.map (·.2)).filter (fun | .r _ _ => true | _ => false)
 (o.map (·.1)).Nodup ∧ (o.map (·.2)).Nodup ∧ (∀ c ∈ l, c ∉ o.map (·.2)) ∧ okO ys outs = true ∧ rs.all okR = true ∧ (mv ++ t.map (·.1)).Nodup ∧ (t.map (·.2.1)).Nodup ∧
  (∀ p ∈ t, match p.1 with | .r i j => isUn (σ (.r i j)) = true | _ => True) ∧
  (mv = [] ∧ t = [] ∧ fz = [] ∨ g) ∧ (d = none → t = []) ∧
  K (mv.map (fun c => (c, V.dead)) ++ (frozen σ fz ++ (t.map (fun p => (p.1, p.2.2)) ++ wr d (resV' (d.getD 0) rs)))) (rdx σ xs ys)
def wpcall (P : Program) (g : Prop) (f : FuncId) (xs : List V) (d : Option Nat) (σ : St) (K : List (Comp × V) → List Comp → Prop) : Prop :=
 ∃ ys outs rs, (g → passL P σ xs ys ∧ Fn P f ys outs rs) ∧ callK g xs ys outs rs d σ K
def wid (s : Nat) (ys : List V) : Prop := ∀ x ∈ ys, x.ok = true ∧ x.cs.length = s
def appK (g : Prop) (e : TypeId) (Te : TD) (d : Nat) (σ : St) (K : List (Comp × V) → List Comp → Prop) (m : List Comp) (dp : Bool) (xs ys : List V) (ws : List (Comp × V)) (dq : Bool) (rd : List Comp) : Prop :=
 g ∧ isUn (σ (.r d 0)) = true ∧ Te.z.length = Te.sz ∧ 0 < Te.sz ∧ 0 < Te.by_ ∧ (xs.length + ys.length) * Te.by_ ≤ 1099511627776 ∧
  K (ws ++ (m.map (fun c => (c, V.dead)) ++ [(.r d 0, .row (dp && dq) e (xs ++ ys)), (.t d, .own d 0)])) (m ++ rd)
def appY (P : Program) (g : Prop) (t t' e : TypeId) (Te : TD) (y : V) (d : Nat) (σ : St) (K : List (Comp × V) → List Comp → Prop) (m : List Comp) (dp : Bool) (xs : List V) : Prop :=
 match y with
 | .sc (.string s) => isStr P t' = true ∧ isU8 Te.kd = true ∧ Te.by_ = 1 ∧ Te.z = [.sc (.int .u8 0)] ∧ Te.z1 = true ∧ appK g e Te d σ K m dp xs (s.toList.map bv) [] true []
 | .own i j => match σ (.r i j) with
  | .row dq _ ys => t' = t ∧ (∀ c ∈ m, c ≠ .r i j) ∧ wid Te.sz ys ∧ appK g e Te d σ K m dp xs ys (frozen σ [.r i j]) dq [.r i j]
  | .sl ys => t' = t ∧ wid Te.sz ys ∧ appK g e Te d σ K m dp xs ys [] (ys.all flatE) [.r i j]
  | _ => False
 | .sl ys => t' = t ∧ wid Te.sz ys ∧ appK g e Te d σ K m dp xs ys [] (ys.all flatE) []
 | .nil => t' = t ∧ appK g e Te d σ K m dp xs [] [] true []
 | _ => False
def wpapp (P : Program) (g : Prop) (ts : List TypeId) (x y : V) (d : Option Nat) (σ : St) (K : List (Comp × V) → List Comp → Prop) : Prop :=
 match ts, d with
 | [t, t'], some d => match slTy P t with
  | some (e, Te) => match x with
   | .nil => appY P g t t' e Te y d σ K [] true []
   | .own i j => match σ (.r i j) with
    | .row dp e' xs => e' = e ∧ appY P g t t' e Te y d σ K [.r i j] dp xs
    | _ => False
   | _ => False
  | none => False
 | _, _ => False
def wpcl (P : Program) (g : Prop) (ce : Callee) (xs : List Operand) (ts : List TypeId) (d : Option Nat) (σ : St) (K : List (Comp × V) → List Comp → Prop) : Prop :=
 match ce, xs with
 | .value f, xs => match sop σ f with
  | .fn f cs => wpcall P g f (xs.map (sop σ) ++ cs) d σ K
  | _ => False
 | .builtin .append, [x, y] => wpapp P g ts (sop σ x) (sop σ y) d σ K
 | .builtin .len, [x] => match ts with
  | [t] => match sop σ x with
   | .sc (.string s) => isStr P t = true ∧ K (wr d (.sc (.int .i64 s.size))) []
   | x => match slTy P t, lv σ x with
    | some _, some (xs, rd) => K (wr d (.sc (.int .i64 xs.length))) rd
    | _, _ => False
  | _ => False
 | .builtin .max, [x, y] => match sop σ x, sop σ y with
  | .sc (.int k a), .sc (.int k' b) => (g → k = k') ∧ K (wr d (.sc (.int k (max a b)))) []
  | _, _ => False
 | .builtin .min, [x, y] => match sop σ x, sop σ y with
  | .sc (.int k a), .sc (.int k' b) => (g → k = k') ∧ K (wr d (.sc (.int k (min a b)))) []
  | _, _ => False
 | _, _ => False
def wpop (P : Program) (g : Prop) (op : Op) (d : Option Nat) (σ : St) (K : List (Comp × V) → List Comp → Prop) : Prop :=
 match op with
 | .pick c x y => match sop σ c with
  | .sc (.bool t) => K (wr d (pickV t ((sop σ x).st t true) ((sop σ y).st t false))) []
  | _ => False
 | .call c => wpcl P g c.callee c.args.toList c.argTypes.toList d σ K
 | op => wpo P g op d σ K
def upds (σ : St) : List (Comp × V) → St
 | [] => σ
 | p :: ws => upds (upd σ p.1 p.2) ws
def gdl : V → Option (List (Bool × Bool) × Bool)
 | .sc (.bool b) => some ([], b)
 | .gd b w x => match gdl x with
  | some (l, c) => some ((b, w) :: l, c)
  | none => none
 | _ => none
def gH : List (Bool × Bool) → Prop
 | [] => True
 | p :: l => p.1 = p.2 ∧ gH l
def stl : List (Bool × Bool) → V → V
 | [], x => x
 | p :: l, x => stl l (x.st p.1 p.2)
def gw : List (Bool × Bool) → V → V
 | [], x => x
 | p :: l, x => .gd p.1 p.2 (gw l x)
def gdK (dst : Option Nat) (l : List (Bool × Bool)) (K : List (Comp × V) → List Comp → Prop) (ws : List (Comp × V)) (rd : List Comp) : Prop := match dst, ws with
 | some d, [(.t d', x)] => d' = d ∧ K [(.t d, gw l x)] rd
 | _, _ => gH l ∧ K ws rd
def wpg (P : Program) (n : Nat) (ops : Array Oper) (o : Oper) (σ : St) (K : List (Comp × V) → List Comp → Prop) : Prop :=
 okd n o.dst ∧ (match o.guard with
 | none => wpop P True o.op o.dst σ K
 | some (j, w) => match (ops[j]?).bind (·.dst) with
  | some i => i < n ∧ (match gdl (σ (.t i)) with
   | some (l, b) => wpop P (gH (l ++ [(b, w)])) o.op o.dst (fun c => stl (l ++ [(b, w)]) (σ c)) (gdK o.dst (l ++ [(b, w)]) K)
   | none => False)
  | none => False)
def wps (P : Program) (n : Nat) (ops : Array Oper) (Q : St → Prop) : List Oper → St → Prop
 | [], σ => Q σ
 | o :: os, σ => wpg P n ops o σ fun ws _ => wps P n ops Q os (upds σ ws)
structure FP where
 rd : List Comp
 ws : List Comp
def tmpsOf (ops : Array Oper) (o : Oper) : List Comp := (o.looksAt ops).map .t
def wpd (P : Program) (n : Nat) (ops : Array Oper) (Q : List FP → St → Prop) : List Oper → St → List FP → Prop
 | [], σ, fp => Q fp σ
 | o :: os, σ, fp => wpg P n ops o σ fun ws rd => wpd P n ops Q os (upds σ ws) (fp ++ [⟨tmpsOf ops o ++ rd, ws.map Prod.fst⟩])
def apartFP (a b : FP) : Bool := a.ws.all (fun c => !b.rd.contains c && !b.ws.contains c) && b.ws.all (fun c => !a.rd.contains c)
def befM (acc : List Nat) (o : Oper) : Nat := o.after.toList.foldl (fun s e => if Region.binds .any e then s ||| 2 ^ e.on ||| acc.getD e.on 0 else s) 0
def befs : List Oper → List Nat → List Nat
 | [], acc => acc
 | o :: os, acc => befs os (acc ++ [befM acc o])
def chkFP (ops : Array Oper) (fp : List FP) : Bool :=
 let b := befs ops.toList []
 ((List.range ops.toList.length).all fun j => match ops.toList[j]? with
  | some o => o.after.toList.all fun e => !Region.binds .any e || decide (e.on < j)
  | none => true) &&
 (List.range fp.length).all fun j => (List.range j).all fun i => (b.getD j 0).testBit i || match fp[i]?, fp[j]? with
  | some x, some y => apartFP x y
  | _, _ => false
inductive Ex where
 | nm | ex (id : Nat) | rt
def Ex.to : Ex → Exit
 | .nm => .normal
 | .ex id => .exit id
 | .rt => .ret
def W (P : Program) (n np : Nat) (c : Code) (Q : Ex → St → Prop) (σ : St) : Prop :=
 ∀ C w a (QQ : Exit → Act → World → Prop), C.P = P → C.np = np → Held C σ w a → a.tmps.size = n →
  (∀ e σ' w' a', Q e σ' → Held C σ' w' a' → a'.tmps.size = n → QQ e.to a' w') → True → c.wp P QQ a w
def wpc (P : Program) (n np : Nat) (Q : Ex → St → Prop) : Code → St → Prop
 | .skip, σ => Q .nm σ
 | .region _ ops false, σ => wps P n ops (Q .nm) ops.toList σ
 | .region _ ops true, σ => P.follows .mixedOrders = true ∧ wpd P n ops (fun fp σ' => chkFP ops fp = true ∧ Q .nm σ') ops.toList σ []
 | .seq a b, σ => wpc P n np (fun e σ' => match e with | .nm => wpc P n np Q b σ' | .ex i => Q (.ex i) σ' | .rt => Q .rt σ') a σ
 | .cond c a b, σ => match sop σ c with
  | .sc (.bool t) => (t = true → wpc P n np Q a σ) ∧ (t = false → wpc P n np Q b σ)
  | _ => False
 | .block id c, σ => wpc P n np (fun e σ' => match e with | .ex i => if i = id then Q .nm σ' else Q (.ex i) σ' | .nm => Q .nm σ' | .rt => Q .rt σ') c σ
 | .loop c, σ => W P n np (.loop c) Q σ
 | .exit id, σ => Q (.ex id) σ
 | .ret, σ => Q .rt σ
 | _, _ => False
def rsV (P : Program) (σ : St) : ResultVar → V
 | .tmp t => σ (.t t)
 | .cell a t => match σ (.t a), tyd P t with
  | .pt b o, some T => match σ (.b b) with
   | .blk cs => partV (tAgg P t) T.sz o cs
   | _ => .un
  | _, _ => .un
def rsC (P : Program) (σ : St) : ResultVar → Prop
 | .tmp _ => True
 | .cell a t => match σ (.t a), tyd P t with
  | .pt b o, some T => match σ (.b b) with
   | .blk cs => o + max 1 T.sz ≤ cs.length
   | _ => False
  | _, _ => False
def rsCs (P : Program) (σ : St) : List ResultVar → Prop
 | [] => True
 | r :: rs => rsC P σ r ∧ rsCs P σ rs
def endX : Nat → List V → List V
 | _, [] => []
 | i, .blk _ :: os => .pt i 0 :: endX (i + 1) os
 | i, _ :: os => .un :: endX (i + 1) os
def reN (P : Program) (σ : St) (xs ys : List V) : Prop :=
 passL P σ xs ys ∧ ((og σ xs ys).map (·.1)).Nodup ∧ ((og σ xs ys).map (·.2)).Nodup ∧ ∀ c ∈ ln σ xs ys, c ∉ (og σ xs ys).map (·.2)
def endOk (P : Program) (res : List ResultVar) (outs rs : List V) (σ : St) : Prop :=
 rsCs P σ res ∧ reN P σ (endX 0 outs ++ res.map (rsV P σ)) (outs ++ rs)
end Go.Proofs.YtlfblkekbcfjpaaGreatDoor
namespace Go.Proofs.YtlfblkekbcfjpaaGreatDoor
open Go.RowKit
section
variable {C : Ctx} {E : Env} {cb : Comp → Option Nat} {Fc : Comp → List Nat} {σ : St} {w : World} {a : Act}
theorem R_cv (v : Value) (E : Env) : R (cv v) E [] v := by
 unfold cv
 split
 ·unfold R; exact ⟨rfl, rfl⟩
 ·unfold R; rfl
 ·unfold R; rfl
 ·unfold R
  refine ⟨rfl, rfl, ?_⟩
  cases v <;> first | rfl | simp_all
theorem Sim.sop (h : Sim C E cb Fc σ w a) (x : Operand) : ∃ F, R (sop σ x) E F (a.eval x) := by
 cases x with
 | tmp i => exact h.tmp i
 | const v => exact ⟨[], R_cv v E⟩
 | global g => exact ⟨[], by simp only [YtlfblkekbcfjpaaGreatDoor.sop]; unfold R; rfl⟩
 | func f => exact ⟨[], by simp only [YtlfblkekbcfjpaaGreatDoor.sop, Act.eval]; unfold R; exact ⟨#[], rfl, by simp only [Rs]; trivial⟩⟩
theorem Sim.held (h : Sim C E cb Fc σ w a) : Held C σ w a := ⟨E, cb, Fc, h⟩
theorem Sim.val (h : Sim C E cb Fc σ w a) {P : Program} {o : Oper} {x : V} {F : List Nat} {v : Value} {next : Act → World → Prop} {Q : Exit → Act → World → Prop}
  (hrun : (execOp a.eval o).run P w = .ok (.value v) w) (hx : R x E F v) (hd : okd a.tmps.size o.dst)
  (hn : ∀ a', Held C (upds σ (wr o.dst x)) w a' → a'.tmps.size = a.tmps.size → next a' w) : o.wp P a w next Q := by
 unfold Oper.wp
 rw [hrun, Oper.upon_value]
 cases hdst : o.dst with
 | none => rw [hdst] at hn; exact hn a h.held rfl
 | some d =>
  rw [hdst] at hn hd
  exact hn _ (h.put hd hx).held (by simp -implicitDefEqProofs -dsimp [Act.put])
theorem R_sc {u v : Value} {F : List Nat} (h : R (.sc u) E F v) : v = u := by unfold R at h; exact h.2.1
theorem R_sc_mk {u : Value} (h : u.oneCell' = true) : R (.sc u) E [] u := by unfold R; exact ⟨rfl, rfl, h⟩
theorem bd {α : Type} [DecidableEq α] [BEq α] [LawfulBEq α] (a b : α) : (a == b) = decide (a = b) := by by_cases h : a = b <;> simp -implicitDefEqProofs -dsimp [h]
theorem bdS (a b : ByteArray) : (a.toList == b.toList) = decide (a = b) := by
 rw [bd]
 congr 1
 rw [ByteArray.toList_eq, ByteArray.toList_eq]
 exact propext ⟨fun h => ByteArray.ext (Array.ext' h), fun h => by rw [h]⟩
theorem binV_run {P : Program} {op : BinOp} {t : TypeId} {x y : V} {u v : Value} {F F' : List Nat} (hx : R x E F u) (hy : R y E F' v) (p q : Operand) {K : Prop → Value → Prop} (h : binV op x y K) :
  ∃ s r, K s r ∧ r.oneCell' = true ∧ (s → (do eqGuard op t p q u v; binOp op t u v : Sem Value).run P w = .ok r w) := by
 unfold binV at h
 split at h
 ·rename_i k a k' b
  obtain rfl := R_sc hx; obtain rfl := R_sc hy
  cases op <;> simp only [binI, wrK_eq] at h
  case shl => exact ⟨_, _, h, rfl, fun hs => by simp -implicitDefEqProofs -dsimp [eqGuard, binOp, Op.shift, Int.not_lt.2 hs, bind, Sem.bind, pure, Sem.run]⟩
  case shr => exact ⟨_, _, h, rfl, fun hs => by simp -implicitDefEqProofs -dsimp [eqGuard, binOp, Op.shift, Int.not_lt.2 hs, bind, Sem.bind, pure, Sem.run]⟩
  case quo => exact ⟨_, _, h, rfl, fun hs => by obtain ⟨rfl, hb⟩ := hs; simp -implicitDefEqProofs -dsimp [eqGuard, binOp, Op.intDiv, hb, bind, Sem.bind, pure, Sem.run]⟩
  case rem => exact ⟨_, _, h, rfl, fun hs => by obtain ⟨rfl, hb⟩ := hs; simp -implicitDefEqProofs -dsimp [eqGuard, binOp, Op.intDiv, hb, bind, Sem.bind, pure, Sem.run]⟩
  all_goals refine ⟨_, _, h, rfl, fun hs => ?_⟩
  all_goals subst hs
  case and => simp -implicitDefEqProofs -dsimp [eqGuard, binOp, Op.intBits, bitsV, wrK_eq, bind, Sem.bind, pure, Sem.run]
  case or => simp -implicitDefEqProofs -dsimp [eqGuard, binOp, Op.intBits, bitsV, wrK_eq, bind, Sem.bind, pure, Sem.run]
  case xor => simp -implicitDefEqProofs -dsimp [eqGuard, binOp, Op.intBits, bitsV, wrK_eq, bind, Sem.bind, pure, Sem.run]
  case andNot => simp -implicitDefEqProofs -dsimp [eqGuard, binOp, Op.intBits, bitsV, wrK_eq, bind, Sem.bind, pure, Sem.run]
  case eql => simp -implicitDefEqProofs -dsimp [eqGuard, binOp, Op.intCmp, bind, Sem.bind, pure, Sem.run, bd]
  case neq => simp -implicitDefEqProofs -dsimp [eqGuard, binOp, Op.intCmp, bind, Sem.bind, pure, Sem.run, bne, bd]
  all_goals simp -implicitDefEqProofs -dsimp [eqGuard, binOp, Op.intArith, Op.intCmp, bind, Sem.bind, pure, Sem.run]
 ·rename_i a b
  obtain rfl := R_sc hx; obtain rfl := R_sc hy
  cases op <;> simp only [binS] at h
  case add => exact ⟨_, _, h, rfl, fun hs => by
   have : ((a.size : Int) + b.size ≤ 9223372036854775807) := by omega
   simp -implicitDefEqProofs -dsimp [eqGuard, binOp, Op.stringOp, this, bind, Sem.bind, pure, Sem.run]⟩
  case eql => exact ⟨_, _, h, rfl, fun _ => by simp -implicitDefEqProofs -dsimp [eqGuard, binOp, Op.stringOp, bdS, bind, Sem.bind, pure, Sem.run]⟩
  case neq => exact ⟨_, _, h, rfl, fun _ => by simp -implicitDefEqProofs -dsimp [eqGuard, binOp, Op.stringOp, bdS, bind, Sem.bind, pure, Sem.run]⟩
  case lss => exact ⟨_, _, h, rfl, fun _ => by simp -implicitDefEqProofs -dsimp [eqGuard, binOp, Op.stringOp, bind, Sem.bind, pure, Sem.run]⟩
 ·exact ⟨_, _, h, rfl, fun hs => hs.elim⟩
end
end Go.Proofs.YtlfblkekbcfjpaaGreatDoor
namespace Go.Proofs.YtlfblkekbcfjpaaGreatDoor
open Go.RowKit
structure TyOk (P : Program) (t : TypeId) (T : TD) : Prop where
 ex : ∃ d i, P.underlying t = some d ∧ P.info? t = some i ∧ T.sz = i.size ∧ T.by_ = i.bytes ∧
  T.kd = (match d with | .int k => .int k | .string => .str | .slice _ => .slice | .array n _ => .array n | .struct _ => .struct | _ => .other) ∧
  T.fs = (match d with | .struct fs => fs.toList.map fun f => (f.offset, tAgg P f.type, fsz P f.type) | _ => []) ∧
  T.el = (match d with | .slice e | .array _ e | .pointer e => e | _ => 0) ∧ T.z = (match i.zero with | some v => v.cells.toList.map cv | none => []) ∧ T.z1 = (match i.zero with | some v => v.oneCell' | none => false)
theorem tyd_ok {P : Program} {t : TypeId} {T : TD} (h : tyd P t = some T) : TyOk P t T := by
 unfold tyd at h
 split at h
 ·rename_i d i hd hi
  obtain rfl := Option.some.inj h
  exact ⟨d, i, hd, hi, rfl, rfl, rfl, rfl, rfl, rfl, rfl⟩
 ·cases h
section
variable {P : Program} {t : TypeId} {T : TD}
theorem TyOk.size (h : TyOk P t T) (w : World) : (sizeOf t).run P w = .ok T.sz w := by
 obtain ⟨d, i, h1, h2, h3, _⟩ := h.ex
 simp -implicitDefEqProofs -dsimp [sizeOf, typeInfo, h2, h3]
theorem TyOk.agg (h : TyOk P t T) (w : World) : (isAgg t).run P w = .ok (tAgg P t) w := by
 obtain ⟨d, i, h1, _⟩ := h.ex
 simp only [isAgg, tAgg, h1, isAggD, Sem.run_bind, run_underlying h1, Result.andThen_ok]
 cases d <;> rfl
theorem TyOk.info (h : TyOk P t T) : (P.info? t).map (·.size) = some T.sz := by
 obtain ⟨d, i, h1, h2, h3, _⟩ := h.ex
 simp -implicitDefEqProofs -dsimp [h2, h3]
theorem TyOk.zero (h : TyOk P t T) (w : World) (hz : T.z ≠ []) : ∃ v, (zeroValue t).run P w = .ok v w ∧ T.z = v.cells.toList.map cv := by
 obtain ⟨d, i, h1, h2, h3, _, _, _, _, h4, _⟩ := h.ex
 cases hv : i.zero with
 | none => rw [hv] at h4; exact absurd h4 hz
 | some v => rw [hv] at h4; exact ⟨v, by simp -implicitDefEqProofs -dsimp [zeroValue, typeInfo, h2, hv], h4⟩
end
theorem cv_ok {v : Value} (h : (cv v).ok = true) : v.oneCell' = true := by
 cases v <;> first | rfl | (simp -implicitDefEqProofs -dsimp [cv, V.ok] at h)
theorem Rs_cv (E : Env) : ∀ (vs : List Value), (vs.map cv).all V.ok = true → Rs (vs.map cv) E [] vs
 | [], _ => by unfold Rs; exact ⟨rfl, rfl⟩
 | v :: vs, h => by
  simp only [List.map_cons, List.all_cons, Bool.and_eq_true] at h
  simp only [List.map_cons]; unfold Rs
  exact ⟨[], [], v, vs, rfl, rfl, R_cv v E, cv_ok h.1, Rs_cv E vs h.2⟩
theorem Rs.len : ∀ {xs : List V} {E : Env} {F : List Nat} {vs : List Value}, Rs xs E F vs → vs.length = xs.length
 | [], _, _, _, h => by unfold Rs at h; obtain ⟨_, rfl⟩ := h; rfl
 | x :: xs, _, _, _, h => by
  unfold Rs at h
  obtain ⟨F1, F2, v, ws, _, rfl, _, _, h5⟩ := h
  simp -implicitDefEqProofs -dsimp [h5.len]
theorem Rs.one : ∀ {xs : List V} {E : Env} {F : List Nat} {vs : List Value}, Rs xs E F vs → ∀ u ∈ vs, u.oneCell' = true
 | [], _, _, _, h, _, hu => by unfold Rs at h; obtain ⟨_, rfl⟩ := h; cases hu
 | x :: xs, _, _, _, h, u, hu => by
  unfold Rs at h
  obtain ⟨F1, F2, v, ws, _, rfl, _, h4, h5⟩ := h
  rcases List.mem_cons.1 hu with rfl | hu
  ·exact h4
  ·exact h5.one u hu
theorem Rs.append : ∀ {xs ys : List V} {E : Env} {F G : List Nat} {vs us : List Value}, Rs xs E F vs → Rs ys E G us → Rs (xs ++ ys) E (F ++ G) (vs ++ us)
 | [], _, _, _, _, _, _, h, h' => by unfold Rs at h; obtain ⟨rfl, rfl⟩ := h; exact h'
 | x :: xs, _, _, _, _, _, _, h, h' => by
  unfold Rs at h
  obtain ⟨F1, F2, v, ws, rfl, rfl, h3, h4, h5⟩ := h
  simp only [List.cons_append]; unfold Rs
  exact ⟨F1, F2 ++ _, v, ws ++ _, by rw [List.append_assoc], rfl, h3, h4, h5.append h'⟩
theorem Rs.split : ∀ {xs ys : List V} {E : Env} {F : List Nat} {vs : List Value}, Rs (xs ++ ys) E F vs → ∃ F1 F2 v1 v2, F = F1 ++ F2 ∧ vs = v1 ++ v2 ∧ Rs xs E F1 v1 ∧ Rs ys E F2 v2
 | [], _, _, F, vs, h => ⟨[], F, [], vs, rfl, rfl, by unfold Rs; exact ⟨rfl, rfl⟩, h⟩
 | x :: xs, ys, _, _, _, h => by
  simp only [List.cons_append] at h; unfold Rs at h
  obtain ⟨F1, F2, v, ws, rfl, rfl, h3, h4, h5⟩ := h
  obtain ⟨G1, G2, v1, v2, rfl, rfl, h6, h7⟩ := Rs.split h5
  exact ⟨F1 ++ G1, G2, v :: v1, v2, by rw [List.append_assoc], rfl, by unfold Rs; exact ⟨F1, G1, v, v1, rfl, rfl, h3, h4, h6⟩, h7⟩
theorem Rs.take {xs : List V} {E : Env} {F : List Nat} {vs : List Value} (h : Rs xs E F vs) (n : Nat) : ∃ F', Rs (xs.take n) E F' (vs.take n) := by
 rw [← List.take_append_drop n xs] at h
 obtain ⟨F1, F2, v1, v2, rfl, rfl, h1, h2⟩ := h.split
 have hl := h1.len
 refine ⟨F1, ?_⟩
 rw [List.length_take] at hl
 by_cases hn : n ≤ xs.length
 ·rw [List.take_left' (by omega)]; exact h1
 ·have : v2 = [] := by
   have := h2.len
   rw [List.drop_eq_nil_of_le (by omega)] at this
   exact List.length_eq_zero_iff.1 (by simpa using this)
  subst this
  rw [List.append_nil, show v1.take n = v1 from List.take_of_length_le (by omega)]; exact h1
theorem Rs.drop {xs : List V} {E : Env} {F : List Nat} {vs : List Value} (h : Rs xs E F vs) (n : Nat) : ∃ F', Rs (xs.drop n) E F' (vs.drop n) := by
 by_cases hn : n ≤ xs.length
 ·rw [← List.take_append_drop n xs] at h
  obtain ⟨F1, F2, v1, v2, rfl, rfl, h1, h2⟩ := h.split
  have hl := h1.len
  rw [List.length_take] at hl
  refine ⟨F2, ?_⟩
  rw [List.drop_left' (by omega)]; exact h2
 ·rw [List.drop_eq_nil_of_le (by omega), List.drop_eq_nil_of_le (by rw [h.len]; omega)]
  exact ⟨[], by unfold Rs; exact ⟨rfl, rfl⟩⟩
theorem Rs.get {xs : List V} {E : Env} {F : List Nat} {vs : List Value} (h : Rs xs E F vs) {n : Nat} (hn : n < xs.length) : ∃ F' v, vs[n]? = some v ∧ R (xs.getD n .un) E F' v ∧ v.oneCell' = true := by
 obtain ⟨F', h1⟩ := h.drop n
 rw [List.drop_eq_getElem_cons hn] at h1
 unfold Rs at h1
 obtain ⟨F1, F2, v, ws, _, h2, h3, h4, _⟩ := h1
 refine ⟨F1, v, ?_, by simpa [List.getD, hn] using h3, h4⟩
 have := congrArg (fun l => l[0]?) h2
 simpa using this
theorem Rs_single {x : V} {E : Env} {F : List Nat} {v : Value} (h : R x E F v) (h1 : v.oneCell' = true) : Rs [x] E F [v] := by
 unfold Rs; exact ⟨F, [], v, [], by simp, rfl, h, h1, by unfold Rs; exact ⟨rfl, rfl⟩⟩
theorem cells_one {v : Value} (h : v.oneCell' = true) : v.cells = #[v] := by cases v <;> first | rfl | (simp -implicitDefEqProofs -dsimp [Value.oneCell'] at h)
theorem R_one {x : V} {E : Env} {F : List Nat} {v : Value} (h : R x E F v) (hx : x.ok = true) (hn : ∀ cs, x ≠ .ag cs) : v.oneCell' = true := by
 cases x <;> simp -implicitDefEqProofs -dsimp [V.ok] at hx <;> unfold R at h
 case nil => rw [h.2]; rfl
 case sc u => rw [h.2.1]; exact h.2.2
 case sl xs => obtain ⟨A, c, rfl, _⟩ := h; rfl
 case pin u xs => obtain ⟨_, A, c, rfl, _⟩ := h; rfl
 case ag cs => exact absurd rfl (hn cs)
 case pt => obtain ⟨_, _, g, _, rfl⟩ := h; rfl
 case po => obtain ⟨_, _, g, c, l, k, _, _, _, rfl⟩ := h; rfl
 case pi => obtain ⟨b, o, vs, _, _, rfl, _⟩ := h; rfl
 case own => exact h.2.2.2
 case fn => obtain ⟨vs, rfl, _⟩ := h; rfl
theorem R_cs {x : V} {E : Env} {F : List Nat} {v : Value} (h : R x E F v) (hx : x.ok = true) : Rs x.cs E F v.cells.toList := by
 by_cases hn : ∀ cs, x ≠ .ag cs
 ·have h1 := R_one h hx hn
  rw [cells_one h1]
  have : x.cs = [x] := by cases x <;> first | rfl | exact absurd rfl (hn _)
  rw [this]; exact Rs_single h h1
 ·simp only [ne_eq, Classical.not_forall, Classical.not_not] at hn
  obtain ⟨cs, rfl⟩ := hn
  unfold R at h
  obtain ⟨vs, rfl, h1⟩ := h
  exact h1
theorem Rs.part {cs : List V} {E : Env} {F : List Nat} {vs : List Value} (h : Rs cs E F vs) (ag : Bool) {sz o : Nat} (hs : o + max 1 sz ≤ cs.length) :
  ∃ F', R (partV ag sz o cs) E F' (if ag then .agg ((vs.drop o).take sz).toArray else vs.getD o undef) := by
 unfold partV
 cases ag
 ·obtain ⟨F', v, h1, h2, _⟩ := h.get (n := o) (by omega)
  exact ⟨F', by simpa [List.getD, h1] using h2⟩
 ·obtain ⟨F1, h1⟩ := h.drop o
  obtain ⟨F2, h2⟩ := h1.take sz
  exact ⟨F2, by simp only [if_true]; unfold R; exact ⟨_, rfl, by simpa using h2⟩⟩
theorem Addr.add_plain (g o j : Nat) : (⟨g, o, none⟩ : Addr).add j = ⟨g, o + j, none⟩ := by
 unfold Addr.add; split <;> simp_all
theorem run_loadAt {P : Program} {t : TypeId} {T : TD} (h : TyOk P t T) {w : World} {g o : Nat} {vs : List Value} {q : Nat} (hc : ∀ j u, vs[j]? = some u → w.cell? ⟨g, o + j, none⟩ = some u) (hs : q + max 1 T.sz ≤ vs.length) :
  (Instr.loadAt t (.pointer (some ⟨g, o + q, none⟩))).run P w = .ok (if tAgg P t then .agg ((vs.drop q).take T.sz).toArray else vs.getD q undef) w := by
 simp only [Instr.loadAt, Instr.sureAddr, loadVar, Sem.run_bind, Sem.run_pure, Result.andThen_ok, h.agg w]
 cases tAgg P t
 ·have := hc q (vs[q]'(by omega)) (List.getElem?_eq_getElem (by omega))
  simp -implicitDefEqProofs -dsimp [run_load, this, List.getD, List.getElem?_eq_getElem (show q < vs.length by omega)]
 ·have h2 : ((vs.drop q).take T.sz).length = T.sz := by rw [List.length_take, List.length_drop]; omega
  have h3 := run_loadCells_list (P := P) w ⟨g, o + q, none⟩ ((vs.drop q).take T.sz) fun j u hj => by
   rw [Addr.add_plain, Nat.add_assoc]
   refine hc _ _ ?_
   rw [List.getElem?_take] at hj
   split at hj
   ·simpa using hj
   ·cases hj
  rw [h2] at h3
  simp -implicitDefEqProofs -dsimp [h.size w, h3]
end Go.Proofs.YtlfblkekbcfjpaaGreatDoor
namespace Go.Proofs.YtlfblkekbcfjpaaGreatDoor
open Go.RowKit
theorem Env.dat_le (E : Env) : E.dat.le E := ⟨fun _ _ _ h => h, fun _ _ h => h, fun _ _ _ h => h, fun h => by cases h⟩
theorem Els.get : ∀ {xs : List V} {E : Env} {F : List Nat} {vs : List Value} {k : Nat}, Els xs E F vs k → ∀ m, m < xs.length → ∃ F' v, R (xs.getD m .un) E F' v ∧ v.cells.size = k ∧ (∀ u ∈ v.cells, u.oneCell' = true) ∧ ∀ j u, v.cells[j]? = some u → vs[m * k + j]? = some u
 | [], _, _, _, _, _, m, hm => by simp at hm
 | x :: xs, _, _, _, k, h, m, hm => by
  unfold Els at h
  obtain ⟨F1, F2, v, ws, _, rfl, h3, h4, h5, h6⟩ := h
  cases m with
  | zero =>
   refine ⟨F1, v, by simpa using h3, h4, h5, fun j u hj => ?_⟩
   rw [Nat.zero_mul, Nat.zero_add, List.getElem?_append_left (by simpa using (Array.getElem?_eq_some_iff.1 hj).1)]
   simpa using hj
  | succ m =>
   obtain ⟨F', v', h7, h8, h9, h10⟩ := h6.get m (by simpa using hm)
   refine ⟨F', v', by simpa using h7, h8, h9, fun j u hj => ?_⟩
   rw [List.getElem?_append_right (by simp -implicitDefEqProofs -dsimp [h4, Nat.add_mul]; omega), ← h10 j u hj]
   congr 1
   simp -implicitDefEqProofs -dsimp [h4, Nat.add_mul]; omega
theorem Els.len : ∀ {xs : List V} {E : Env} {F : List Nat} {vs : List Value} {k : Nat}, Els xs E F vs k → vs.length = xs.length * k
 | [], _, _, _, _, h => by unfold Els at h; obtain ⟨_, rfl⟩ := h; simp -implicitDefEqProofs -dsimp
 | x :: xs, _, _, _, k, h => by
  unfold Els at h
  obtain ⟨F1, F2, v, ws, _, rfl, h3, h4, h5, h6⟩ := h
  simp -implicitDefEqProofs -dsimp [h4, h6.len, Nat.add_mul]; omega
theorem Els.one : ∀ {xs : List V} {E : Env} {F : List Nat} {vs : List Value} {k : Nat}, Els xs E F vs k → ∀ u ∈ vs, u.oneCell' = true
 | [], _, _, _, _, h, _, hu => by unfold Els at h; obtain ⟨_, rfl⟩ := h; cases hu
 | x :: xs, _, _, _, k, h, u, hu => by
  unfold Els at h
  obtain ⟨F1, F2, v, ws, _, rfl, h3, h4, h5, h6⟩ := h
  rcases List.mem_append.1 hu with hu | hu
  ·exact h5 u (by simpa using hu)
  ·exact h6.one u hu
section
variable {C : Ctx} {E : Env} {cb : Comp → Option Nat} {Fc : Comp → List Nat} {σ : St} {w : World} {a : Act}
theorem Sim.pt (h : Sim C E cb Fc σ w a) {b o : Nat} {F : List Nat} {v : Value} {cs : List V} (hx : R (.pt b o) E F v) (hb : σ (.b b) = .blk cs) :
  ∃ g arr ty Fb, v = .pointer (some ⟨g, o, none⟩) ∧ cb (.b b) = some g ∧ E.μ b = some g ∧ w.heap[g]? = some (.cells arr ty (0, 0)) ∧ Rs cs E Fb arr.toList ∧ ∀ j u, arr.toList[j]? = some u → w.cell? ⟨g, j, none⟩ = some u := by
 unfold R at hx
 obtain ⟨_, _, g, h1, rfl⟩ := hx
 have h2 := h.mem (.b b)
 rw [hb] at h2
 obtain ⟨arr, ty, k, h3, h4, h5, _, h6⟩ := h2
 obtain rfl : g = k := Option.some.inj (h1.symm.trans h4)
 exact ⟨g, arr, ty, _, rfl, h3, h4, h5, h6, fun j u hj => (cell_of_row w g j arr ty (0, 0) h5).trans (by simpa using hj)⟩
theorem Sim.row (h : Sim C E cb Fc σ w a) {i j : Nat} {d : Bool} {e : TypeId} {xs : List V} (hb : σ (.r i j) = .row d e xs) :
  ∃ u vs k A c, E.ρ i j = some u ∧ u = .slice A xs.length c ∧ (C.P.info? e).map (·.size) = some k ∧ 0 < k ∧ w.ownsRow 0 e k u xs.length vs ∧ Els xs E.dat (Fc (.r i j)) vs k ∧ cb (.r i j) = u.ownBlock ∧ xs.length ≤ c ∧ c ≤ maxLen ∧
   (A = none → c = 0) ∧ (∀ x, A = some x → ∃ g, x = ⟨g, 0, none⟩ ∧ ∀ j u, vs[j]? = some u → w.cell? ⟨g, j, none⟩ = some u) ∧ (d = true → ∀ b ∈ Fc (.r i j), PlB w b) := by
 have h2 := h.mem (.r i j)
 rw [hb] at h2
 obtain ⟨u, vs, k, h3, h4, h5, h6, h7, h8, h9⟩ := h2
 have h10 := h6
 obtain ⟨h11, h12⟩ := h10
 rcases h12 with ⟨rfl, hl⟩ | ⟨g, cap, cur, rfl, hb0, hh, h13, h14, h15, h16⟩
 ·exact ⟨_, vs, k, none, 0, h3, by rw [hl], h4, h5, h6, h7, h8, by omega, by unfold maxLen; omega, fun _ => rfl, fun x hx => (by cases hx), h9⟩
 ·refine ⟨_, vs, k, some ⟨g, 0, none⟩, cap, h3, rfl, h4, h5, h6, h7, h8, h13, h14, fun e => (by cases e), fun x hx => ?_, h9⟩
  obtain rfl := Option.some.inj hx
  refine ⟨g, rfl, fun j u hj => (cell_of_row w g j cur e (0, 0) hh).trans ?_⟩
  rw [← h16, List.getElem?_take] at hj
  split at hj
  ·simpa using hj
  ·cases hj
theorem Sim.lv (h : Sim C E cb Fc σ w a) {x : V} {F : List Nat} {v : Value} {xs : List V} {rd : List Comp} (hx : R x E F v) (hl : lv σ x = some (xs, rd)) :
  ∃ A c, v = .slice A xs.length c ∧ xs.length ≤ c ∧ c ≤ maxLen ∧ (A = none → c = 0) ∧ (xs ≠ [] → ∃ b off vs k F', A = some ⟨b, off, none⟩ ∧ Els xs E.dat F' vs k ∧ ∀ j u, vs[j]? = some u → w.cell? ⟨b, off + j, none⟩ = some u) := by
 have main : ∀ {xs : List V} {F : List Nat} {v : Value}, R (.sl xs) E F v → ∃ A c, v = .slice A xs.length c ∧ xs.length ≤ c ∧ c ≤ maxLen ∧ (A = none → c = 0) ∧ (xs ≠ [] → ∃ b off vs k F', A = some ⟨b, off, none⟩ ∧ Els xs E.dat F' vs k ∧ ∀ j u, vs[j]? = some u → w.cell? ⟨b, off + j, none⟩ = some u) := by
  intro xs F v hx
  unfold R at hx
  obtain ⟨A, c, rfl, h1, h2, h3⟩ := hx
  rcases h3 with ⟨rfl, _, h4⟩ | ⟨b, off, F', vs, k, rfl, _, h5, h6⟩
  ·exact ⟨A, c, rfl, h1, h2, h4, fun e => absurd rfl e⟩
  ·exact ⟨_, c, rfl, h1, h2, fun e => (by cases e), fun _ => ⟨b, off, vs, k, F', rfl, h6, fun j u hj => h.frz _ _ _ (h5 j u hj)⟩⟩
 unfold YtlfblkekbcfjpaaGreatDoor.lv at hl
 split at hl
 ·obtain ⟨rfl, rfl⟩ := Prod.mk.inj (Option.some.inj hl)
  exact main hx
 ·obtain ⟨rfl, rfl⟩ := Prod.mk.inj (Option.some.inj hl)
  unfold R at hx
  obtain ⟨_, rfl⟩ := hx
  exact ⟨none, 0, rfl, Nat.le_refl _, Nat.zero_le _, fun _ => rfl, fun e => absurd rfl e⟩
 ·rename_i i j
  unfold R at hx
  obtain ⟨_, _, h1, _⟩ := hx
  split at hl
  ·rename_i d e xs' hb
   obtain ⟨rfl, rfl⟩ := Prod.mk.inj (Option.some.inj hl)
   obtain ⟨u, vs, k, A, c, h2, rfl, _, _, _, h3, _, h4, h5, h6, h7, _⟩ := h.row hb
   obtain rfl := Option.some.inj (h1.symm.trans h2)
   refine ⟨A, c, rfl, h4, h5, h6, fun hne => ?_⟩
   cases A with
   | none =>
    have := h6 rfl
    exact absurd (List.length_eq_zero_iff.1 (by omega)) hne
   | some x =>
    obtain ⟨g, rfl, h8⟩ := h7 x rfl
    exact ⟨g, 0, vs, k, _, rfl, h3, fun j u hj => by rw [Nat.zero_add]; exact h8 j u hj⟩
  ·rename_i xs' hb
   obtain ⟨rfl, rfl⟩ := Prod.mk.inj (Option.some.inj hl)
   have h2 := h.mem (.r i j)
   rw [hb] at h2
   obtain ⟨_, u, h3, _, h4⟩ := h2
   obtain rfl := Option.some.inj (h1.symm.trans h3)
   exact main h4
  ·cases hl
 ·cases hl
end
end Go.Proofs.YtlfblkekbcfjpaaGreatDoor
