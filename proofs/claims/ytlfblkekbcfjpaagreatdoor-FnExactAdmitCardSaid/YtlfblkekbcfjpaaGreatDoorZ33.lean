/- Part of a proof: contracts and plain laws. -/
import Derived.Test.YtlfblkekbcfjpaaGreatDoorZ32
set_option linter.unusedVariables false
set_option linter.unusedSimpArgs false
namespace Go.Proofs.YtlfblkekbcfjpaaGreatDoor
open Go
set_option maxRecDepth 100000
set_option maxHeartbeats 2000000
def isSgn (t : Tok) (c : UInt8) : Bool := decide (t.k = 1) && decide (t.s = [c])
def sgnAt (ts : List Tok) (a : Nat) (c : UInt8) : Bool := match ts[a]? with
 | some t => isSgn t c
 | none => false
def nameP (ts : List Tok) (a : Nat) : Option (List UInt8) := match ts[a]? with
 | some t => if t.k = 2 ∧ sgnAt ts (a + 1) 58 = true then some t.s else none
 | none => none
def txG (s : List UInt8) : GVal := ⟨7, 0, 0, ⟨s.toArray⟩, []⟩
def itemP (ts : List Tok) (rd : Nat → Except Int (GVal × Nat)) (m : Bool) (a : Nat) : Except Int (List GVal × Nat) :=
 if m then (match nameP ts a with
  | none => .error 1
  | some s => match rd (a + 2) with
   | .error c => .error c
   | .ok (v, e) => .ok ([txG s, v], e))
 else match rd a with
  | .error c => .error c
  | .ok (v, e) => .ok ([v], e)
def manyT (ts : List Tok) (rd : Nat → Except Int (GVal × Nat)) (m : Bool) (shut : UInt8) : Nat → Nat → Except Int (List GVal × Nat)
 | 0, _ => .error 1
 | f + 1, a => match itemP ts rd m a with
  | .error c => .error c
  | .ok (xs, e) => if sgnAt ts e shut = true then .ok (xs, e + 1) else if sgnAt ts e 44 = true then (match manyT ts rd m shut f (e + 1) with
   | .error c => .error c
   | .ok (ys, e') => .ok (xs ++ ys, e')) else .error 1
def manyQ (ts : List Tok) (rd : Nat → Except Int (GVal × Nat)) (m : Bool) (shut : UInt8) (a : Nat) := manyT ts rd m shut (ts.length + 1 - a) a
def elemsP (ts : List Tok) (rd : Nat → Except Int (GVal × Nat)) (m : Bool) (shut : UInt8) (a : Nat) : Except Int (List GVal × Nat) :=
 if sgnAt ts a shut = true then .ok ([], a + 1) else manyQ ts rd m shut a
def listE (k : Int) : Except Int (List GVal × Nat) → Except Int (GVal × Nat)
 | .error c => .error c
 | .ok (xs, e) => .ok (⟨k, 0, 0, ⟨[].toArray⟩, xs⟩, e)
def numG (p : Int × Int) : GVal := if p.2 = 0 then ⟨3, p.1, 0, ⟨[].toArray⟩, []⟩ else ⟨6, p.1, p.2, ⟨[].toArray⟩, []⟩
def valueP (ts : List Tok) : Nat → Nat → Except Int (GVal × Nat)
 | 0, _ => .error 2
 | d + 1, a => match ts[a]? with
  | none => .error 1
  | some t =>
   if t.k = 2 then .ok (txG t.s, a + 1)
   else if t.k = 3 then (match decNewP t.n t.x with
    | none => .error 2
    | some p => .ok (numG p, a + 1))
   else if t.k = 4 then
    (if t.s = wNull then .ok (⟨1, 0, 0, ⟨[].toArray⟩, []⟩, a + 1) else if t.s = wTrue then .ok (⟨2, 1, 0, ⟨[].toArray⟩, []⟩, a + 1) else if t.s = wFalse then .ok (⟨2, 0, 0, ⟨[].toArray⟩, []⟩, a + 1) else .error 1)
   else if t.k = 1 then
    (if t.s = [91] then listE 9 (elemsP ts (valueP ts d) false 93 (a + 1)) else if t.s = [123] then listE 10 (elemsP ts (valueP ts d) true 125 (a + 1)) else .error 1)
   else .error 1
def treeP (ts : List Tok) (d : Nat) : Except Int GVal := match valueP ts d 0 with
 | .error c => .error c
 | .ok (v, e) => if e < ts.length then .error 1 else .ok v
theorem sgnAt_lt {ts : List Tok} {a : Nat} {c : UInt8} (h : sgnAt ts a c = true) : a < ts.length := by
 unfold sgnAt at h
 rcases Nat.lt_or_ge a ts.length with h1 | h1
 ·exact h1
 ·rw [List.getElem?_eq_none h1] at h; cases h
def Adv (n : Nat) (rd : Nat → Except Int (GVal × Nat)) : Prop := ∀ a v e, rd a = .ok (v, e) → a < e ∧ e ≤ n
theorem itemP_adv {ts : List Tok} {rd : Nat → Except Int (GVal × Nat)} (h : Adv ts.length rd) {m : Bool} {a e : Nat} {xs : List GVal} (hi : itemP ts rd m a = .ok (xs, e)) : a < e ∧ e ≤ ts.length ∧ 1 ≤ xs.length ∧ xs.length ≤ 2 := by
 unfold itemP at hi
 cases m with
 | true =>
  simp only [if_true] at hi
  cases hn : nameP ts a with
  | none => rw [hn] at hi; cases hi
  | some s =>
   rw [hn] at hi; simp only at hi
   cases hr : rd (a + 2) with
   | error c => rw [hr] at hi; cases hi
   | ok p =>
    obtain ⟨v, e1⟩ := p
    rw [hr] at hi; cases hi
    have := h _ _ _ hr
    simp -implicitDefEqProofs -dsimp; omega
 | false =>
  rw [if_neg (by decide)] at hi
  cases hr : rd a with
  | error c => rw [hr] at hi; cases hi
  | ok p =>
   obtain ⟨v, e1⟩ := p
   rw [hr] at hi; cases hi
   have := h _ _ _ hr
   simp -implicitDefEqProofs -dsimp; omega
theorem manyT_more {ts : List Tok} {rd : Nat → Except Int (GVal × Nat)} (h : Adv ts.length rd) {m : Bool} {c : UInt8} : ∀ (f a : Nat), a ≤ ts.length → ts.length + 1 - a ≤ f → manyT ts rd m c f a = manyQ ts rd m c a
 | 0, a, ha, hf => by omega
 | f + 1, a, ha, hf => by
  obtain ⟨k, hk⟩ : ∃ k, ts.length + 1 - a = k + 1 := ⟨ts.length - a, by omega⟩
  unfold manyQ
  rw [hk]
  unfold manyT
  cases hi : itemP ts rd m a with
  | error c1 => rfl
  | ok p =>
   obtain ⟨xs, e⟩ := p
   have := itemP_adv h hi
   simp only
   split
   ·rfl
   ·split
    ·rename_i h4
     have := sgnAt_lt h4
     rw [manyT_more h f (e + 1) (by omega) (by omega), manyT_more h k (e + 1) (by omega) (by omega)]
    ·rfl
def gApp (acc : List GVal) : Except Int (List GVal × Nat) → Except Int (List GVal × Nat)
 | .error c => .error c
 | .ok (ys, e) => .ok (acc ++ ys, e)
theorem gApp_nil (o : Except Int (List GVal × Nat)) : gApp [] o = o := by rcases o with _ | ⟨_, _⟩ <;> rfl
section
variable {ts : List Tok} {rd : Nat → Except Int (GVal × Nat)} {m : Bool} {c : UInt8} {a e : Nat} {xs : List GVal}
theorem manyQ_succ (ha : a ≤ ts.length) : ∃ k, ts.length + 1 - a = k + 1 := ⟨ts.length - a, by omega⟩
theorem manyQ_err {k : Int} (ha : a ≤ ts.length) (hi : itemP ts rd m a = .error k) : manyQ ts rd m c a = .error k := by
 obtain ⟨k, hk⟩ := manyQ_succ ha
 unfold manyQ; rw [hk]; unfold manyT; rw [hi]
theorem manyQ_shut (ha : a ≤ ts.length) (hi : itemP ts rd m a = .ok (xs, e)) (hs : sgnAt ts e c = true) : manyQ ts rd m c a = .ok (xs, e + 1) := by
 obtain ⟨k, hk⟩ := manyQ_succ ha
 unfold manyQ; rw [hk]; unfold manyT; rw [hi]; simp only; rw [if_pos hs]
theorem manyQ_bad (ha : a ≤ ts.length) (hi : itemP ts rd m a = .ok (xs, e)) (hs : sgnAt ts e c = false) (hc : sgnAt ts e 44 = false) : manyQ ts rd m c a = .error 1 := by
 obtain ⟨k, hk⟩ := manyQ_succ ha
 unfold manyQ; rw [hk]; unfold manyT; rw [hi]; simp only; rw [if_neg (by rw [hs]; decide), if_neg (by rw [hc]; decide)]
theorem manyQ_step (h : Adv ts.length rd) (ha : a ≤ ts.length) (hi : itemP ts rd m a = .ok (xs, e)) (hs : sgnAt ts e c = false) (hc : sgnAt ts e 44 = true) (acc : List GVal) : gApp acc (manyQ ts rd m c a) = gApp (acc ++ xs) (manyQ ts rd m c (e + 1)) := by
 obtain ⟨k, hk⟩ := manyQ_succ ha
 have h1 := itemP_adv h hi
 have h2 := sgnAt_lt hc
 conv => lhs; unfold manyQ
 rw [hk]; unfold manyT; rw [hi]; simp only; rw [if_neg (by rw [hs]; decide), if_pos hc, manyT_more h k (e + 1) (by omega) (by omega)]
 rcases manyQ ts rd m c (e + 1) with _ | ⟨_, _⟩ <;> simp -implicitDefEqProofs -dsimp [gApp]
end
theorem manyT_adv {ts : List Tok} {rd : Nat → Except Int (GVal × Nat)} (h : Adv ts.length rd) {m : Bool} {c : UInt8} : ∀ (f a : Nat) {xs : List GVal} {e : Nat}, manyT ts rd m c f a = .ok (xs, e) → a < e ∧ e ≤ ts.length
 | 0, a, xs, e, hm => by cases hm
 | f + 1, a, xs, e, hm => by
  unfold manyT at hm
  cases hi : itemP ts rd m a with
  | error c1 => rw [hi] at hm; cases hm
  | ok p =>
   obtain ⟨ys, e1⟩ := p
   have h1 := itemP_adv h hi
   rw [hi] at hm; simp only at hm
   split at hm
   ·rename_i hs
    have := sgnAt_lt hs
    cases hm; omega
   ·split at hm
    ·cases h2 : manyT ts rd m c f (e1 + 1) with
     | error c1 => rw [h2] at hm; cases hm
     | ok q =>
      obtain ⟨zs, e2⟩ := q
      have h3 := manyT_adv h f (e1 + 1) h2
      rw [h2] at hm; cases hm; omega
    ·cases hm
theorem elemsP_adv {ts : List Tok} {rd : Nat → Except Int (GVal × Nat)} (h : Adv ts.length rd) {m : Bool} {c : UInt8} {a e : Nat} {xs : List GVal} (he : elemsP ts rd m c a = .ok (xs, e)) : a < e ∧ e ≤ ts.length := by
 unfold elemsP at he
 split at he
 ·rename_i hs; have := sgnAt_lt hs; cases he; omega
 ·exact manyT_adv h _ _ he
theorem valueP_adv {ts : List Tok} : ∀ d, Adv ts.length (valueP ts d)
 | 0, a, v, e, h => by cases h
 | d + 1, a, v, e, h => by
  unfold valueP at h
  cases ht : ts[a]? with
  | none => rw [ht] at h; cases h
  | some t =>
   have hlt : a < ts.length := by
    rcases Nat.lt_or_ge a ts.length with h1 | h1
    ·exact h1
    ·rw [List.getElem?_eq_none h1] at ht; cases ht
   rw [ht] at h; simp only at h
   have hl : ∀ k m c, listE k (elemsP ts (valueP ts d) m c (a + 1)) = .ok (v, e) → a < e ∧ e ≤ ts.length := fun k m c hx => by
    rcases hq : elemsP ts (valueP ts d) m c (a + 1) with _ | ⟨xs, e1⟩
    ·rw [hq] at hx; cases hx
    ·have := elemsP_adv (valueP_adv d) hq
     rw [hq] at hx; cases hx; omega
   repeat' split at h
   all_goals first | (cases h; omega) | (cases h; done) | exact hl _ _ _ h
theorem valueP_err {ts : List Tok} : ∀ d a c, valueP ts d a = .error c → c = 1 ∨ c = 2
 | 0, a, c, h => by cases h; simp -implicitDefEqProofs -dsimp
 | d + 1, a, c, h => by
  have ih := valueP_err (ts := ts) d
  have hit : ∀ m b c, itemP ts (valueP ts d) m b = .error c → c = 1 ∨ c = 2 := fun m b c hx => by
   unfold itemP at hx
   cases m with
   | true =>
    simp only [if_true] at hx
    cases hn : nameP ts b with
    | none => rw [hn] at hx; cases hx; simp -implicitDefEqProofs -dsimp
    | some s =>
     rw [hn] at hx; simp only at hx
     rcases hr : valueP ts d (b + 2) with c1 | ⟨v, e⟩
     ·rw [hr] at hx; cases hx; exact ih _ _ hr
     ·rw [hr] at hx; cases hx
   | false =>
    rw [if_neg (by decide)] at hx
    rcases hr : valueP ts d b with c1 | ⟨v, e⟩
    ·rw [hr] at hx; cases hx; exact ih _ _ hr
    ·rw [hr] at hx; cases hx
  have hmt : ∀ m k f b c, manyT ts (valueP ts d) m k f b = .error c → c = 1 ∨ c = 2 := by
   intro m k f
   induction f with
   | zero => intro b c hx; cases hx; simp -implicitDefEqProofs -dsimp
   | succ f ihf =>
    intro b c hx
    unfold manyT at hx
    rcases hi : itemP ts (valueP ts d) m b with c1 | ⟨xs, e⟩
    ·rw [hi] at hx; cases hx; exact hit _ _ _ hi
    ·rw [hi] at hx; simp only at hx
     split at hx
     ·cases hx
     ·split at hx
      ·rcases hr : manyT ts (valueP ts d) m k f (e + 1) with c1 | ⟨ys, e2⟩
       ·rw [hr] at hx; cases hx; exact ihf _ _ hr
       ·rw [hr] at hx; cases hx
      ·cases hx; simp -implicitDefEqProofs -dsimp
  have hle : ∀ kk m k b, listE kk (elemsP ts (valueP ts d) m k b) = .error c → c = 1 ∨ c = 2 := fun kk m k b hx => by
   unfold elemsP at hx
   split at hx
   ·cases hx
   ·rcases hr : manyQ ts (valueP ts d) m k b with c1 | ⟨ys, e2⟩
    ·rw [hr] at hx; cases hx; exact hmt _ _ _ _ _ hr
    ·rw [hr] at hx; cases hx
  unfold valueP at h
  repeat' split at h
  all_goals first | (cases h; simp -implicitDefEqProofs -dsimp; done) | (cases h; done) | exact hle _ _ _ _ h
theorem sIntVal {n : Int} : Fn Tryz.prog 66 [I n] [.un] [vF 27 ⟨3, n, 0, ⟨[].toArray⟩, []⟩] := by
 refine Fn_of Tryz.func66 rfl rfl (by simp -implicitDefEqProofs -dsimp) rfl ?_; simp only [Tryz.f66]
 simp -implicitDefEqProofs -dsimp [vF]
theorem iIntVal {n : Int} : Fn Tryz.prog 122 [I n] [.un] [vF 27 ⟨3, n, 0, ⟨[].toArray⟩, []⟩] := by
 refine Fn_of Tryz.func122 rfl rfl (by simp -implicitDefEqProofs -dsimp) rfl ?_; simp only [Tryz.f122]
 simp -implicitDefEqProofs -dsimp [vF]
theorem sTextVal {s : List UInt8} : Fn Tryz.prog 94 [T s] [.un] [vF 27 (txG s)] := by
 refine Fn_of Tryz.func94 rfl rfl (by simp -implicitDefEqProofs -dsimp) rfl ?_; simp only [Tryz.f94]
 simp -implicitDefEqProofs -dsimp [vF, txG]
theorem iTextVal {s : List UInt8} : Fn Tryz.prog 157 [T s] [.un] [vF 27 (txG s)] := by
 refine Fn_of Tryz.func157 rfl rfl (by simp -implicitDefEqProofs -dsimp) rfl ?_; simp only [Tryz.f157]
 simp -implicitDefEqProofs -dsimp [vF, txG]
theorem sNumberVal {n x : Int} : Fn Tryz.prog 96 [.ag [I n, I x]] [.un] [vF 27 (numG (n, x))] := by
 by_cases hx : x = 0
 ·subst hx
  refine Fn_of Tryz.func96 rfl rfl (by simp -implicitDefEqProofs -dsimp) rfl ?_; simp only [Tryz.f96]
  simp -implicitDefEqProofs -dsimp [vF, numG]
  repeat' (first | with_reducible intro _ | with_reducible apply And.intro | (refine chkOk ?_; kernel_rfl) | (refine wpcall_d (sIntVal) ?_; simp -implicitDefEqProofs -dsimp [vF, numG]))
 ·refine Fn_of Tryz.func96 rfl rfl (by simp -implicitDefEqProofs -dsimp) rfl ?_; simp only [Tryz.f96]
  simp -implicitDefEqProofs -dsimp [vF, numG, hx]
theorem iNumberVal {n x : Int} : Fn Tryz.prog 119 [.ag [I n, I x]] [.un] [vF 27 (numG (n, x))] := by
 by_cases hx : x = 0
 ·subst hx
  refine Fn_of Tryz.func119 rfl rfl (by simp -implicitDefEqProofs -dsimp) rfl ?_; simp only [Tryz.f119]
  simp -implicitDefEqProofs -dsimp [vF, numG]
  repeat' (first | with_reducible intro _ | with_reducible apply And.intro | (refine chkOk ?_; kernel_rfl) | (refine wpcall_d (iIntVal) ?_; simp -implicitDefEqProofs -dsimp [vF, numG]))
 ·refine Fn_of Tryz.func119 rfl rfl (by simp -implicitDefEqProofs -dsimp) rfl ?_; simp only [Tryz.f119]
  simp -implicitDefEqProofs -dsimp [vF, numG, hx]
theorem idecimal {n x : Int} (h : In64 n) : Fn Tryz.prog 81 [I n, I x] [.un, .un] [vF 27 (numG (optF (decNewP n x)).1), B (optF (decNewP n x)).2] := by
 have hD := iDecNew (x := x) h
 generalize optF (decNewP n x) = o at *
 obtain ⟨⟨m, y⟩, b⟩ := o
 have hN := @iNumberVal m y
 generalize numG (m, y) = g at *
 refine Fn_of Tryz.func81 rfl rfl (by simp -implicitDefEqProofs -dsimp) rfl ?_; simp only [Tryz.f81]
 simp -implicitDefEqProofs -dsimp [vF]
 repeat' (first | with_reducible intro _ | with_reducible apply And.intro | (refine chkOk ?_; kernel_rfl) | (refine wpcall_d (hD) ?_; simp -implicitDefEqProofs -dsimp [vF]) | (refine wpcall_d (hN) ?_; simp -implicitDefEqProofs -dsimp [vF]))
end Go.Proofs.YtlfblkekbcfjpaaGreatDoor
namespace Go.Proofs.YtlfblkekbcfjpaaGreatDoor
open Go
set_option maxRecDepth 100000
set_option maxHeartbeats 2000000
abbrev tB (ts : List Tok) (a : Nat) (c : Int) : V := .blk [.sl (ts.map tkV), I a, I c, .fn 81 []]
abbrev tE (ts : List Tok) (c : Int) : V := .blk [.sl (ts.map tkV), .un, I c, .fn 81 []]
abbrev gV : V := .ag [.un, .un, .un, .un, .un]
section
variable {ts : List Tok} {a : Nat} {c k : Int} {x : UInt8}
theorem iTFail0 : Fn Tryz.prog 154 [tB ts a 0, I k] [tE ts k, .un] [vF 27 zeroG] := by
 refine Fn_of Tryz.func154 rfl rfl (by simp -implicitDefEqProofs -dsimp) rfl ?_; simp only [Tryz.f154]
 simp -implicitDefEqProofs -dsimp [vF, zeroG]
theorem iTFailE (hc : ¬ c = 0) : Fn Tryz.prog 154 [tE ts c, I k] [tE ts c, .un] [vF 27 zeroG] := by
 refine Fn_of Tryz.func154 rfl rfl (by simp -implicitDefEqProofs -dsimp) rfl ?_; simp only [Tryz.f154]
 simp -implicitDefEqProofs -dsimp [vF, zeroG, hc]
theorem iIs0 (hl : ts.length ≤ 1073741824) : Fn Tryz.prog 155 [tB ts a 0, T [x]] [tB ts a 0, .un] [B (sgnAt ts a x)] := by
 by_cases hlt : a < ts.length
 ·obtain ⟨t, ht⟩ : ∃ t, ts[a]? = some t := ⟨_, List.getElem?_eq_getElem hlt⟩
  have hx2 : ts[a] = t := by rw [List.getElem?_eq_getElem hlt] at ht; exact Option.some.inj ht
  have e1 : sgnAt ts a x = isSgn t x := by unfold sgnAt; rw [ht]
  have h3 : (a : Int) < ts.length := by omega
  rw [e1]
  by_cases hk : t.k = 1
  ·refine Fn_of Tryz.func155 rfl rfl (by simp -implicitDefEqProofs -dsimp) rfl ?_; simp only [Tryz.f155]
   simp -implicitDefEqProofs -dsimp [h3, hlt, hx2, hk, isSgn]; repeat' (first | with_reducible intro _ | with_reducible apply And.intro | (refine chkOk ?_; kernel_rfl))
  ·refine Fn_of Tryz.func155 rfl rfl (by simp -implicitDefEqProofs -dsimp) rfl ?_; simp only [Tryz.f155]
   simp -implicitDefEqProofs -dsimp [h3, hlt, hx2, hk, isSgn]; repeat' (first | with_reducible intro _ | with_reducible apply And.intro | (refine chkOk ?_; kernel_rfl))
 ·have e1 : sgnAt ts a x = false := by unfold sgnAt; rw [List.getElem?_eq_none (by omega)]
  have h3 : ¬ (a : Int) < ts.length := by omega
  rw [e1]
  refine Fn_of Tryz.func155 rfl rfl (by simp -implicitDefEqProofs -dsimp) rfl ?_; simp only [Tryz.f155]
  simp -implicitDefEqProofs -dsimp [h3, hlt]; repeat' (first | with_reducible intro _ | with_reducible apply And.intro | (refine chkOk ?_; kernel_rfl))
theorem iIsE (hc : ¬ c = 0) : Fn Tryz.prog 155 [tE ts c, T [x]] [tE ts c, .un] [B false] := by
 refine Fn_of Tryz.func155 rfl rfl (by simp -implicitDefEqProofs -dsimp) rfl ?_; simp only [Tryz.f155]
 simp -implicitDefEqProofs -dsimp [hc]; repeat' (first | with_reducible intro _ | with_reducible apply And.intro | (refine chkOk ?_; kernel_rfl))
theorem iTake0y (hl : ts.length ≤ 1073741824) (hs : sgnAt ts a x = true) : Fn Tryz.prog 188 [tB ts a 0, T [x]] [tB ts (a + 1) 0, .un] [] := by
 have hI := iIs0 (ts := ts) (a := a) (x := x) hl
 have hlt := sgnAt_lt hs
 have h2 : wrK .i64 ((a : Int) + 1) = a + 1 := wrap64_id _ (by omega)
 rw [hs] at hI
 refine Fn_of Tryz.func188 rfl rfl (by simp -implicitDefEqProofs -dsimp) rfl ?_; simp only [Tryz.f188]
 simp -implicitDefEqProofs -dsimp
 refine wpcall_q hI ?_; simp -implicitDefEqProofs -dsimp [h2]
theorem iTake0n (hl : ts.length ≤ 1073741824) (hs : sgnAt ts a x = false) : Fn Tryz.prog 188 [tB ts a 0, T [x]] [tE ts 1, .un] [] := by
 have hI := iIs0 (ts := ts) (a := a) (x := x) hl
 have hF := iTFail0 (ts := ts) (a := a) (k := 1)
 rw [hs] at hI
 refine Fn_of Tryz.func188 rfl rfl (by simp -implicitDefEqProofs -dsimp) rfl ?_; simp only [Tryz.f188]
 simp -implicitDefEqProofs -dsimp
 refine wpcall_q hI ?_; simp -implicitDefEqProofs -dsimp
 refine wpcall_q hF ?_; simp -implicitDefEqProofs -dsimp [vF, zeroG]
theorem iTakeE (hc : ¬ c = 0) : Fn Tryz.prog 188 [tE ts c, T [x]] [tE ts c, .un] [] := by
 refine Fn_of Tryz.func188 rfl rfl (by simp -implicitDefEqProofs -dsimp) rfl ?_; simp only [Tryz.f188]
 simp -implicitDefEqProofs -dsimp
 refine wpcall_q (iIsE (ts := ts) (x := x) hc) ?_; simp -implicitDefEqProofs -dsimp
 refine wpcall_q (iTFailE (ts := ts) (k := 1) hc) ?_; simp -implicitDefEqProofs -dsimp [vF, zeroG]
theorem iName0 (hl : ts.length ≤ 1073741824) {t : Tok} (ht : ts[a]? = some t) (hk : t.k = 2) : Fn Tryz.prog 187 [tB ts a 0] [tB ts (a + 1) 0] [vF 27 (txG t.s)] := by
 have hlt : a < ts.length := by
  rcases Nat.lt_or_ge a ts.length with h1 | h1
  ·exact h1
  ·rw [List.getElem?_eq_none h1] at ht; cases ht
 have hx2 : ts[a] = t := by rw [List.getElem?_eq_getElem hlt] at ht; exact Option.some.inj ht
 have h1 : ¬ (ts.length : Int) ≤ a := by omega
 have h2 : wrK .i64 ((a : Int) + 1) = a + 1 := wrap64_id _ (by omega)
 have h4 : wrK .i64 (a : Int) = a := wrap64_id _ (by omega)
 have h3 : (a : Int) < ts.length := by omega
 have h5 : ¬ ts.length ≤ a := by omega
 refine Fn_of Tryz.func187 rfl rfl (by simp -implicitDefEqProofs -dsimp) rfl ?_; simp only [Tryz.f187]
 simp -implicitDefEqProofs -dsimp [h1, h2, h3, h4, h5, hlt, hx2, hk, vF, txG]; repeat' (first | with_reducible intro _ | with_reducible apply And.intro | (refine chkOk ?_; kernel_rfl) | (refine wpcall_d (iTextVal) ?_; simp -implicitDefEqProofs -dsimp [h1, h2, h3, h4, h5, hlt, hx2, hk, vF, txG]))
theorem iName0n (hl : ts.length ≤ 1073741824) (h : ∀ t, ts[a]? = some t → ¬ t.k = 2) : Fn Tryz.prog 187 [tB ts a 0] [tE ts 1] [vF 27 zeroG] := by
 have hF := iTFail0 (ts := ts) (a := a) (k := 1)
 by_cases hlt : a < ts.length
 ·obtain ⟨t, ht⟩ : ∃ t, ts[a]? = some t := ⟨_, List.getElem?_eq_getElem hlt⟩
  have hx2 : ts[a] = t := by rw [List.getElem?_eq_getElem hlt] at ht; exact Option.some.inj ht
  have hk := h t ht
  have h1 : ¬ (ts.length : Int) ≤ a := by omega
  have h3 : (a : Int) < ts.length := by omega
  have h5 : ¬ ts.length ≤ a := by omega
  refine Fn_of Tryz.func187 rfl rfl (by simp -implicitDefEqProofs -dsimp) rfl ?_; simp only [Tryz.f187]
  simp -implicitDefEqProofs -dsimp [h1, h3, h5, hlt, hx2, hk, vF, zeroG]; repeat' (first | with_reducible intro _ | with_reducible apply And.intro | (refine chkOk ?_; kernel_rfl) | (refine wpcall_q (hF) ?_; simp -implicitDefEqProofs -dsimp [h1, h3, h5, hlt, hx2, hk, vF, zeroG]))
 ·have h1 : (ts.length : Int) ≤ a := by omega
  have h3 : ¬ (a : Int) < ts.length := by omega
  have h5 : ts.length ≤ a := by omega
  refine Fn_of Tryz.func187 rfl rfl (by simp -implicitDefEqProofs -dsimp) rfl ?_; simp only [Tryz.f187]
  simp -implicitDefEqProofs -dsimp [h1, h3, h5, hlt, vF, zeroG]; repeat' (first | with_reducible intro _ | with_reducible apply And.intro | (refine chkOk ?_; kernel_rfl) | (refine wpcall_q (hF) ?_; simp -implicitDefEqProofs -dsimp [h1, h3, h5, hlt, vF, zeroG]))
theorem iValueE {d : Int} (hc : ¬ c = 0) : Fn Tryz.prog 117 [tE ts c, I d] [tE ts c, .un] [vF 27 zeroG] := by
 refine Fn_of Tryz.func117 rfl rfl (by simp -implicitDefEqProofs -dsimp) rfl ?_; simp only [Tryz.f117]
 simp -implicitDefEqProofs -dsimp [hc, vF, zeroG]
end
end Go.Proofs.YtlfblkekbcfjpaaGreatDoor
namespace Go.Proofs.YtlfblkekbcfjpaaGreatDoor
open Go
set_option maxRecDepth 100000
set_option maxHeartbeats 20000000
def tvA : Except Int (GVal × Nat) → V
 | .ok p => I p.2
 | .error _ => .un
def tvV : Except Int (GVal × Nat) → V
 | .ok p => vF 27 p.1
 | .error _ => gV
abbrev tvO (ts : List Tok) (o : Except Int (GVal × Nat)) : V := .blk [.sl (ts.map tkV), tvA o, I (codeE o), .fn 81 []]
def ValC (ts : List Tok) (d : Nat) : Prop := ∀ a, a ≤ ts.length → Fn Tryz.prog 117 [tB ts a 0, I d] [tvO ts (valueP ts d a), .un] [tvV (valueP ts d a)]
theorem sgnAt_excl {ts : List Tok} {a : Nat} {x y : UInt8} (h : sgnAt ts a x = true) (hxy : x ≠ y) : sgnAt ts a y = false := by
 unfold sgnAt at *
 cases ht : ts[a]? with
 | none => simp +zeta [ht] at h
 | some t =>
  rw [ht] at h
  unfold isSgn at *
  simp +zeta at h ⊢
  intro _ h2
  rw [h.2] at h2
  simp +zeta at h2
  try exact hxy h2
theorem iElems_l {ts : List Tok} {d a : Nat} {x : UInt8} (hx44 : x ≠ 44) (hl : ts.length ≤ 1073741824) (hd : d ≤ 1000000) (hT : ValC ts d) (ha : a < ts.length) :
  Fn Tryz.prog 156 [tB ts a 0, I 9, T [x], I ((d + 1 : Nat) : Int)] [tvO ts (listE 9 (elemsP ts (valueP ts d) false x (a + 1))), .un, .un, .un] [tvV (listE 9 (elemsP ts (valueP ts d) false x (a + 1)))] := by
 generalize hR : listE 9 (elemsP ts (valueP ts d) false x (a + 1)) = R
 unfold elemsP at hR
 have hP := iIs0 (ts := ts) (a := a + 1) (x := x) hl
 have w0 : wrK .i64 ((a : Int) + 1) = a + 1 := wrap64_id _ (by omega)
 have w2 : wrK .i64 ((a : Int) + 1 + 1) = a + 1 + 1 := wrap64_id _ (by omega)
 have w3 : wrK .i64 (d : Int) = d := wrap64_id _ (by omega)
 cases hs : sgnAt ts (a + 1) x with
 | true =>
  rw [if_pos hs] at hR; subst hR
  rw [hs] at hP
  refine Fn_of Tryz.func156 rfl rfl (by simp -implicitDefEqProofs -dsimp) rfl ?_; simp only [Tryz.f156]
  simp -implicitDefEqProofs -dsimp [w0]
  refine wpcall_q hP ?_; simp -implicitDefEqProofs -dsimp [w2, tvO, tvA, tvV, codeE, vF, listE]
 | false =>
  rw [if_neg (by rw [hs]; decide)] at hR
  rw [hs] at hP
  have hadv := valueP_adv (ts := ts) d
  refine Fn_of Tryz.func156 rfl rfl (by simp -implicitDefEqProofs -dsimp) (by rcases R with _ | ⟨_, _⟩ <;> rfl) ?_; simp only [Tryz.f156]
  simp -implicitDefEqProofs -dsimp [w0]
  refine wpcall_q hP ?_; simp -implicitDefEqProofs -dsimp
  refine WL_loop (fun p : List GVal × Nat => [(0, tB ts p.2 0), (1, I 9), (2, T [x]), (3, I ((d : Int) + 1)), (8, .blk [I 0, I 0, I 0, T [], .nil]), (9, .blk [I 9, I 0, I 0, T [], .row true 27 (p.1.map vV)])]) (fun p => ts.length - p.2) (fun p => p.2 ≤ ts.length ∧ p.1.length ≤ 2 * p.2 ∧ listE 9 (gApp p.1 (manyQ ts (valueP ts d) false x p.2)) = R) ([], a + 1) ⟨by simp only; omega, by simp, by rw [gApp_nil]; exact hR⟩ ?_ ?_
  ·simp -implicitDefEqProofs -dsimp
  ·clear hR hP hs ha w0 w2
   rintro ⟨xs, a⟩ ⟨ha, hlen, hR⟩
   simp only at ha hlen hR ⊢
   have hTa := hT a ha
   have hb : (xs.length + 1) * 64 ≤ 1099511627776 := by omega
   rcases hv : valueP ts d a with c | ⟨v, e⟩
   ·rw [hv] at hTa
    have hc : ¬ c = 0 := by have := valueP_err d a c hv; omega
    have hi : itemP ts (valueP ts d) false a = .error c := by unfold itemP; rw [if_neg (by decide), hv]
    rw [manyQ_err ha hi] at hR; simp -implicitDefEqProofs -dsimp [gApp, listE] at hR; subst hR
    simp -implicitDefEqProofs -dsimp [tvO, tvA, tvV, codeE, gV] at hTa
    simp -implicitDefEqProofs -dsimp [-head_L, w3]
    refine wpcall_q hTa ?_; simp -implicitDefEqProofs -dsimp [-head_L, hb]
    refine ⟨?_, ?_⟩
    ·refine chkOk ?_; kernel_rfl
    refine wpcall_q (iIsE (ts := ts) (x := 44) hc) ?_; simp -implicitDefEqProofs -dsimp [-head_L]
    refine wpcall_q (iTakeE (ts := ts) (x := x) hc) ?_; simp -implicitDefEqProofs -dsimp [-head_L, tvO, tvA, tvV, codeE, gV]
   ·rw [hv] at hTa
    have hade := hadv a v e hv
    have hi : itemP ts (valueP ts d) false a = .ok ([v], e) := by unfold itemP; rw [if_neg (by decide), hv]
    have hI2 := iIs0 (ts := ts) (a := e) (x := 44) hl
    simp -implicitDefEqProofs -dsimp [tvO, tvA, tvV, codeE, vF] at hTa
    cases hsc : sgnAt ts e 44 with
    | true =>
     have hsx := sgnAt_excl hsc (Ne.symm hx44)
     have hlt := sgnAt_lt hsc
     have w4 : wrK .i64 ((e : Int) + 1) = e + 1 := wrap64_id _ (by omega)
     rw [hsc] at hI2
     rw [manyQ_step hadv ha hi hsx hsc] at hR
     simp -implicitDefEqProofs -dsimp [-head_L, -endOk, w3]
     refine wpcall_q hTa ?_; simp -implicitDefEqProofs -dsimp [-head_L, -endOk, hb]
     refine ⟨?_, ?_⟩
     ·refine chkOk ?_; kernel_rfl
     refine wpcall_q hI2 ?_; simp -implicitDefEqProofs -dsimp [-head_L, -endOk, w4]
     refine ⟨xs ++ [v], e + 1, ⟨by omega, by simp -implicitDefEqProofs -dsimp; omega, hR⟩, by omega, ?_⟩
     simp -implicitDefEqProofs -dsimp
    | false =>
     rw [hsc] at hI2
     cases hsx : sgnAt ts e x with
     | true =>
      have hTk := iTake0y hl hsx
      rw [manyQ_shut ha hi hsx] at hR; simp -implicitDefEqProofs -dsimp [gApp, listE] at hR; subst hR
      simp -implicitDefEqProofs -dsimp [-head_L, w3]
      refine wpcall_q hTa ?_; simp -implicitDefEqProofs -dsimp [-head_L, hb]
      refine ⟨?_, ?_⟩
      ·refine chkOk ?_; kernel_rfl
      refine wpcall_q hI2 ?_; simp -implicitDefEqProofs -dsimp [-head_L]
      refine wpcall_q hTk ?_; simp -implicitDefEqProofs -dsimp [-head_L, tvO, tvA, tvV, codeE, vF]
     | false =>
      have hTk := iTake0n hl hsx
      rw [manyQ_bad ha hi hsx hsc] at hR; simp -implicitDefEqProofs -dsimp [gApp, listE] at hR; subst hR
      simp -implicitDefEqProofs -dsimp [-head_L, w3]
      refine wpcall_q hTa ?_; simp -implicitDefEqProofs -dsimp [-head_L, hb]
      refine ⟨?_, ?_⟩
      ·refine chkOk ?_; kernel_rfl
      refine wpcall_q hI2 ?_; simp -implicitDefEqProofs -dsimp [-head_L]
      refine wpcall_q hTk ?_; simp -implicitDefEqProofs -dsimp [-head_L, tvO, tvA, tvV, codeE, gV]
theorem iElems_m {ts : List Tok} {d a : Nat} {x : UInt8} (hx44 : x ≠ 44) (hl : ts.length ≤ 1073741824) (hd : d ≤ 1000000) (hT : ValC ts d) (ha : a < ts.length) :
  Fn Tryz.prog 156 [tB ts a 0, I 10, T [x], I ((d + 1 : Nat) : Int)] [tvO ts (listE 10 (elemsP ts (valueP ts d) true x (a + 1))), .un, .un, .un] [tvV (listE 10 (elemsP ts (valueP ts d) true x (a + 1)))] := by
 generalize hR : listE 10 (elemsP ts (valueP ts d) true x (a + 1)) = R
 unfold elemsP at hR
 have hP := iIs0 (ts := ts) (a := a + 1) (x := x) hl
 have w0 : wrK .i64 ((a : Int) + 1) = a + 1 := wrap64_id _ (by omega)
 have w2 : wrK .i64 ((a : Int) + 1 + 1) = a + 1 + 1 := wrap64_id _ (by omega)
 have w3 : wrK .i64 (d : Int) = d := wrap64_id _ (by omega)
 cases hs : sgnAt ts (a + 1) x with
 | true =>
  rw [if_pos hs] at hR; subst hR
  rw [hs] at hP
  refine Fn_of Tryz.func156 rfl rfl (by simp -implicitDefEqProofs -dsimp) rfl ?_; simp only [Tryz.f156]
  simp -implicitDefEqProofs -dsimp [w0]
  refine wpcall_q hP ?_; simp -implicitDefEqProofs -dsimp [w2, tvO, tvA, tvV, codeE, vF, listE]
 | false =>
  rw [if_neg (by rw [hs]; decide)] at hR
  rw [hs] at hP
  have hadv := valueP_adv (ts := ts) d
  refine Fn_of Tryz.func156 rfl rfl (by simp -implicitDefEqProofs -dsimp) (by rcases R with _ | ⟨_, _⟩ <;> rfl) ?_; simp only [Tryz.f156]
  simp -implicitDefEqProofs -dsimp [w0]
  refine wpcall_q hP ?_; simp -implicitDefEqProofs -dsimp
  refine WL_loop (fun p : List GVal × Nat => [(0, tB ts p.2 0), (1, I 10), (2, T [x]), (3, I ((d : Int) + 1)), (8, .blk [I 0, I 0, I 0, T [], .nil]), (9, .blk [I 10, I 0, I 0, T [], .row true 27 (p.1.map vV)])]) (fun p => ts.length - p.2) (fun p => p.2 ≤ ts.length ∧ p.1.length ≤ 2 * p.2 ∧ listE 10 (gApp p.1 (manyQ ts (valueP ts d) true x p.2)) = R) ([], a + 1) ⟨by simp only; omega, by simp, by rw [gApp_nil]; exact hR⟩ ?_ ?_
  ·simp -implicitDefEqProofs -dsimp
  ·clear hR hP hs ha w0 w2
   rintro ⟨xs, a⟩ ⟨ha, hlen, hR⟩
   simp only at ha hlen hR ⊢
   have hb : (xs.length + 1) * 64 ≤ 1099511627776 := by omega
   have hb2 : (xs.length + 2) * 64 ≤ 1099511627776 := by clear hR; omega
   cases hnm : nameP ts a with
   | none =>
    have hi : itemP ts (valueP ts d) true a = .error 1 := by unfold itemP; rw [if_pos rfl, hnm]
    rw [manyQ_err ha hi] at hR; simp -implicitDefEqProofs -dsimp [gApp, listE] at hR; subst hR
    have hE2 := iValueE (ts := ts) (c := 1) (d := d) (by decide)
    have hI2 := iIsE (ts := ts) (c := 1) (x := 44) (by decide)
    have hTk := iTakeE (ts := ts) (c := 1) (x := x) (by decide)
    simp -implicitDefEqProofs -dsimp [vF, zeroG] at hE2
    by_cases hk : ∃ t, ts[a]? = some t ∧ t.k = 2
    ·obtain ⟨t, ht, hk⟩ := hk
     have hN := iName0 hl ht hk
     have hcol : sgnAt ts (a + 1) 58 = false := by
      rw [Bool.eq_false_iff]; intro hc
      unfold nameP at hnm; rw [ht] at hnm; simp only at hnm; rw [if_pos ⟨hk, hc⟩] at hnm; cases hnm
     have hTc := iTake0n hl hcol
     simp -implicitDefEqProofs -dsimp [vF, txG] at hN
     simp -implicitDefEqProofs -dsimp [-head_L, w3]
     refine wpcall_q hN ?_; simp -implicitDefEqProofs -dsimp [-head_L, hb]
     refine ⟨?_, ?_⟩
     ·refine chkOk ?_; kernel_rfl
     refine wpcall_q hTc ?_; simp -implicitDefEqProofs -dsimp [-head_L, w3]
     refine wpcall_q hE2 ?_; simp -implicitDefEqProofs -dsimp [-head_L, hb2]
     refine ⟨?_, ?_⟩
     ·refine chkOk ?_; kernel_rfl
     refine wpcall_q hI2 ?_; simp -implicitDefEqProofs -dsimp [-head_L]
     refine wpcall_q hTk ?_; simp -implicitDefEqProofs -dsimp [-head_L, tvO, tvA, tvV, codeE, gV]
    ·have hN := iName0n (a := a) hl (fun t ht hk2 => hk ⟨t, ht, hk2⟩)
     have hTc := iTakeE (ts := ts) (c := 1) (x := 58) (by decide)
     simp -implicitDefEqProofs -dsimp [vF, zeroG] at hN
     simp -implicitDefEqProofs -dsimp [-head_L, w3]
     refine wpcall_q hN ?_; simp -implicitDefEqProofs -dsimp [-head_L, hb]
     refine ⟨?_, ?_⟩
     ·refine chkOk ?_; kernel_rfl
     refine wpcall_q hTc ?_; simp -implicitDefEqProofs -dsimp [-head_L, w3]
     refine wpcall_q hE2 ?_; simp -implicitDefEqProofs -dsimp [-head_L, hb2]
     refine ⟨?_, ?_⟩
     ·refine chkOk ?_; kernel_rfl
     refine wpcall_q hI2 ?_; simp -implicitDefEqProofs -dsimp [-head_L]
     refine wpcall_q hTk ?_; simp -implicitDefEqProofs -dsimp [-head_L, tvO, tvA, tvV, codeE, gV]
   | some s =>
    obtain ⟨t, ht, hk, rfl, hcol⟩ : ∃ t, ts[a]? = some t ∧ t.k = 2 ∧ t.s = s ∧ sgnAt ts (a + 1) 58 = true := by
     unfold nameP at hnm
     cases ht : ts[a]? with
     | none => rw [ht] at hnm; cases hnm
     | some t =>
      rw [ht] at hnm; simp only at hnm
      split at hnm
      ·rename_i h; cases hnm; exact ⟨t, rfl, h.1, rfl, h.2⟩
      ·cases hnm
    have hN := iName0 hl ht hk
    have hTc := iTake0y hl hcol
    have e12 : (a : Int) + 1 + 1 = a + 2 := by omega
    have hlt2 := sgnAt_lt hcol
    have hTa := hT (a + 2) (by omega)
    simp -implicitDefEqProofs -dsimp [vF, txG] at hN
    rcases hv : valueP ts d (a + 2) with c | ⟨v, e⟩
    ·rw [hv] at hTa
     have hc : ¬ c = 0 := by have := valueP_err d (a + 2) c hv; omega
     have hi : itemP ts (valueP ts d) true a = .error c := by unfold itemP; rw [if_pos rfl, hnm]; simp only; rw [hv]
     rw [manyQ_err ha hi] at hR; simp -implicitDefEqProofs -dsimp [gApp, listE] at hR; subst hR
     simp -implicitDefEqProofs -dsimp [tvO, tvA, tvV, codeE, gV] at hTa
     simp -implicitDefEqProofs -dsimp [-head_L, w3]
     refine wpcall_q hN ?_; simp -implicitDefEqProofs -dsimp [-head_L, hb]
     refine ⟨?_, ?_⟩
     ·refine chkOk ?_; kernel_rfl
     refine wpcall_q hTc ?_; simp -implicitDefEqProofs -dsimp [-head_L, w3, e12]
     refine wpcall_q hTa ?_; simp -implicitDefEqProofs -dsimp [-head_L, hb2]
     refine ⟨?_, ?_⟩
     ·refine chkOk ?_; kernel_rfl
     refine wpcall_q (iIsE (ts := ts) (x := 44) hc) ?_; simp -implicitDefEqProofs -dsimp [-head_L]
     refine wpcall_q (iTakeE (ts := ts) (x := x) hc) ?_; simp -implicitDefEqProofs -dsimp [-head_L, tvO, tvA, tvV, codeE, gV]
    ·rw [hv] at hTa
     have hade := hadv (a + 2) v e hv
     have hi : itemP ts (valueP ts d) true a = .ok ([txG t.s, v], e) := by unfold itemP; rw [if_pos rfl, hnm]; simp only; rw [hv]
     have hI2 := iIs0 (ts := ts) (a := e) (x := 44) hl
     simp -implicitDefEqProofs -dsimp [tvO, tvA, tvV, codeE, vF] at hTa
     cases hsc : sgnAt ts e 44 with
     | true =>
      have hsx := sgnAt_excl hsc (Ne.symm hx44)
      have hlt := sgnAt_lt hsc
      have w4 : wrK .i64 ((e : Int) + 1) = e + 1 := wrap64_id _ (by omega)
      rw [hsc] at hI2
      rw [manyQ_step hadv ha hi hsx hsc] at hR
      simp -implicitDefEqProofs -dsimp [-head_L, -endOk, w3]
      refine wpcall_q hN ?_; simp -implicitDefEqProofs -dsimp [-head_L, -endOk, hb]
      refine ⟨?_, ?_⟩
      ·refine chkOk ?_; kernel_rfl
      refine wpcall_q hTc ?_; simp -implicitDefEqProofs -dsimp [-head_L, -endOk, w3, e12]
      refine wpcall_q hTa ?_; simp -implicitDefEqProofs -dsimp [-head_L, -endOk, hb2]
      refine ⟨?_, ?_⟩
      ·refine chkOk ?_; kernel_rfl
      refine wpcall_q hI2 ?_; simp -implicitDefEqProofs -dsimp [-head_L, -endOk, w4]
      refine ⟨xs ++ [txG t.s, v], e + 1, ⟨by omega, by simp -implicitDefEqProofs -dsimp; omega, hR⟩, by omega, ?_⟩
      simp -implicitDefEqProofs -dsimp [txG]
     | false =>
      rw [hsc] at hI2
      cases hsx : sgnAt ts e x with
      | true =>
       have hTk := iTake0y hl hsx
       rw [manyQ_shut ha hi hsx] at hR; simp -implicitDefEqProofs -dsimp [gApp, listE] at hR; subst hR
       simp -implicitDefEqProofs -dsimp [-head_L, w3]
       refine wpcall_q hN ?_; simp -implicitDefEqProofs -dsimp [-head_L, hb]
       refine ⟨?_, ?_⟩
       ·refine chkOk ?_; kernel_rfl
       refine wpcall_q hTc ?_; simp -implicitDefEqProofs -dsimp [-head_L, w3, e12]
       refine wpcall_q hTa ?_; simp -implicitDefEqProofs -dsimp [-head_L, hb2]
       refine ⟨?_, ?_⟩
       ·refine chkOk ?_; kernel_rfl
       refine wpcall_q hI2 ?_; simp -implicitDefEqProofs -dsimp [-head_L]
       refine wpcall_q hTk ?_; simp -implicitDefEqProofs -dsimp [-head_L, tvO, tvA, tvV, codeE, vF, txG]
      | false =>
       have hTk := iTake0n hl hsx
       rw [manyQ_bad ha hi hsx hsc] at hR; simp -implicitDefEqProofs -dsimp [gApp, listE] at hR; subst hR
       simp -implicitDefEqProofs -dsimp [-head_L, w3]
       refine wpcall_q hN ?_; simp -implicitDefEqProofs -dsimp [-head_L, hb]
       refine ⟨?_, ?_⟩
       ·refine chkOk ?_; kernel_rfl
       refine wpcall_q hTc ?_; simp -implicitDefEqProofs -dsimp [-head_L, w3, e12]
       refine wpcall_q hTa ?_; simp -implicitDefEqProofs -dsimp [-head_L, hb2]
       refine ⟨?_, ?_⟩
       ·refine chkOk ?_; kernel_rfl
       refine wpcall_q hI2 ?_; simp -implicitDefEqProofs -dsimp [-head_L]
       refine wpcall_q hTk ?_; simp -implicitDefEqProofs -dsimp [-head_L, tvO, tvA, tvV, codeE, gV]
end Go.Proofs.YtlfblkekbcfjpaaGreatDoor
