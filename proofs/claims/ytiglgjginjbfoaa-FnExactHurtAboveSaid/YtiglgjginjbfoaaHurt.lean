/- Contracts: equality of paths, prefixes, Hurt and HurtAbove, in the program and in the reference. -/
import Derived.Test.YtiglgjginjbfoaaLaw2
import Derived.Laws.StructEq
import Derived.BigQuiet
import Derived.Deep.QuietTactic
namespace Go.Proofs.Ytiglgjginjbfoaa
open Go.RowKit
set_option linter.unusedVariables false

/-- A value, and nothing but draws. -/
def RetQ (w : World) (v : Value) (e : Ending) (w' : World) : Prop := e = .returned v ∧ ∃ n, w' = w.drewN n
theorem RetQ.ret {w w' : World} {v : Value} {e : Ending} (h : RetQ w v e w') : Ret w v e w' := by
  obtain ⟨h1, n, rfl⟩ := h
  exact ⟨h1, below_drewN (bRf w) n⟩

theorem exN (w : World) (a b : Nat) : ∃ n, (w.drewN a).drewN b = w.drewN n := ⟨a + b, by rw [World.drewN_drewN]⟩
theorem stepStruct : Try.prog.underlying 58 = some (.struct (Try.prog.fieldsOf 58)) := by kernel_rfl
theorem stepStood : Try.prog.stoodInHeld 58 = false := by kernel_rfl
theorem neq_step (x y : GStep) (w : World) : (binOp .neq 58 (.agg #[.int .i64 x.at_, .bool x.name]) (.agg #[.int .i64 y.at_, .bool y.name])).run Try.prog w = .ok (.bool (!(decide (x = y)))) w := by
  have e : decide (x = y) = (decide (x.at_ = y.at_) && decide (x.name = y.name)) := by
    cases x; cases y; simp
  rw [e]
  generalize x.at_ = a
  generalize y.at_ = b
  generalize x.name = m
  generalize y.name = n
  simp only [binOp]
  simp [Op.equal, Op.maxDepth, run_equalIn_struct w 9999 58 _ _ stepStruct stepStood, go_sem]
  by_cases h1 : a = b <;> by_cases h2 : m = n <;> simp [h1, h2]
theorem neq_step_same {x y : GStep} (h : x = y) (w : World) : (binOp .neq 58 (.agg #[.int .i64 x.at_, .bool x.name]) (.agg #[.int .i64 y.at_, .bool y.name])).run Try.prog w = .ok (.bool false) w := by
  rw [neq_step, decide_eq_true h]; rfl
theorem neq_step_other {x y : GStep} (h : x ≠ y) (w : World) : (binOp .neq 58 (.agg #[.int .i64 x.at_, .bool x.name]) (.agg #[.int .i64 y.at_, .bool y.name])).run Try.prog w = .ok (.bool true) w := by
  rw [neq_step, decide_eq_false h]; rfl

theorem l18SamePath_any (xs ys : List GStep) (A A' : Option Addr) (c c' : Nat) (w : World) (hx : SA w xs A c) (hy : SA w ys A' c') :
    Calls Try.prog 51 #[.slice A xs.length c, .slice A' ys.length c'] w (RetQ w (.bool (decide (xs = ys)))) := by
  obtain ⟨r, hr⟩ : ∃ r, r = decide (xs = ys) := ⟨_, rfl⟩
  rw [← hr]
  have R := Lib.hid hr; clear hr
  have hl : xs.length ≤ 9223372036854775807 := by have := hx.len; unfold maxLen at this; omega
  have hl' : ys.length ≤ 9223372036854775807 := by have := hy.len; unfold maxLen at this; omega
  have E := Lib.hid (And.intro hx hy); clear hx hy
  by_cases he : xs.length = ys.length
  · have he' : ((xs.length : Int) != ys.length) = false := by simp [he]
    have HE := Lib.hid he; clear he
    go_enter Try.func51, Try.ntmps51
    go_wp2_with fail
    go_loopg [5] xs.length (fun gk i wr => ∃ k : Nat, k ≤ xs.length ∧ i = .int .i64 k ∧ gk = xs.length - k ∧ Hid (xs.take k = ys.take k) ∧ ∃ n, wr = w.drewN n)
    case atStart => exact ⟨0, by omega, rfl, by omega, rfl, 0, rfl⟩
    case round =>
      obtain ⟨k, hk, rfl, rfl, hT, nd, rfl⟩ := hrel
      by_cases hlt : k < xs.length
      · obtain ⟨b, off, rfl, hb, hI, k0, k1⟩ := E.out.1.step_at hlt
        have hlt' : k < ys.length := HE.out ▸ hlt
        obtain ⟨b', off', rfl, hb', hI', k0', k1'⟩ := E.out.2.step_at hlt'
        have hi1 : (k : Int) < xs.length := by omega
        have hi2 : (k : Int) < ys.length := by omega
        have hi3 : (0 : Int) ≤ k := by omega
        rcases Decidable.em (xs[k] = ys[k]) with hq | hq
        · have hne := neq_step_same (x := xs[k]) (y := ys[k]) hq
          have HQ := Lib.hid hq; clear hq
          go_wp2_with fail
          go_quiet (fail)
          go_wp2_with fail
          go_roundg (xs.length - (k + 1))
          case measure => omega
          case rel => exact ⟨k + 1, by omega, by go_num, rfl, take_snoc_eq hlt hlt' hT.out HQ.out, by first | exact ⟨_, rfl⟩ | exact exN _ _ _⟩
        · have hne := neq_step_other (x := xs[k]) (y := ys[k]) hq
          have HQ := Lib.hid hq; clear hq
          go_wp2_with fail
          go_quiet (fail)
          go_wp2_with fail
          go_ret
          exact ⟨by rw [R.out, decide_eq_false (fun h => HQ.out (by subst h; rfl))]; rfl, by first | exact ⟨_, rfl⟩ | exact exN _ _ _⟩
      · have e : k = xs.length := by omega
        go_wp2_with fail
        go_ret
        exact ⟨by rw [R.out, decide_eq_true (take_all_eq e HE.out hT.out)]; rfl, _, rfl⟩
  · have he' : ((xs.length : Int) != ys.length) = true := by simp; omega
    go_enter Try.func51, Try.ntmps51
    go_wp2_with fail
    go_ret
    exact ⟨by rw [R.out, decide_eq_false (fun h => he (by rw [h]))]; rfl, 0, rfl⟩

theorem equalStep_any (xs ys : List GStep) (A A' : Option Addr) (c c' : Nat) (w : World) (hx : SA w xs A c) (hy : SA w ys A' c') :
    Calls Try.prog 53 #[.slice A xs.length c, .slice A' ys.length c'] w (RetQ w (.bool (decide (xs = ys)))) := by
  obtain ⟨r, hr⟩ : ∃ r, r = decide (xs = ys) := ⟨_, rfl⟩
  rw [← hr]
  have R := Lib.hid hr; clear hr
  have hl : xs.length ≤ 9223372036854775807 := by have := hx.len; unfold maxLen at this; omega
  have hl' : ys.length ≤ 9223372036854775807 := by have := hy.len; unfold maxLen at this; omega
  have E := Lib.hid (And.intro hx hy); clear hx hy
  by_cases he : xs.length = ys.length
  · have he' : ((xs.length : Int) != ys.length) = false := by simp [he]
    have HE := Lib.hid he; clear he
    go_enter Try.func53, Try.ntmps53
    go_wp2_with fail
    go_loopg [13] xs.length (fun gk i wr => ∃ k : Nat, k ≤ xs.length ∧ i = .int .i64 k ∧ gk = xs.length - k ∧ Hid (xs.take k = ys.take k) ∧ ∃ n, wr = w.drewN n)
    case atStart => exact ⟨0, by omega, rfl, by omega, rfl, 0, rfl⟩
    case round =>
      obtain ⟨k, hk, rfl, rfl, hT, nd, rfl⟩ := hrel
      by_cases hlt : k < xs.length
      · obtain ⟨b, off, rfl, hb, hI, k0, k1⟩ := E.out.1.step_at hlt
        have hlt' : k < ys.length := HE.out ▸ hlt
        obtain ⟨b', off', rfl, hb', hI', k0', k1'⟩ := E.out.2.step_at hlt'
        have hi1 : (k : Int) < xs.length := by omega
        have hi2 : (k : Int) < ys.length := by omega
        have hi3 : (0 : Int) ≤ k := by omega
        rcases Decidable.em (xs[k] = ys[k]) with hq | hq
        · have hne := neq_step_same (x := xs[k]) (y := ys[k]) hq
          have HQ := Lib.hid hq; clear hq
          go_wp2_with fail
          go_quiet (fail)
          go_wp2_with fail
          go_roundg (xs.length - (k + 1))
          case measure => omega
          case rel => exact ⟨k + 1, by omega, by go_num, rfl, take_snoc_eq hlt hlt' hT.out HQ.out, by first | exact ⟨_, rfl⟩ | exact exN _ _ _⟩
        · have hne := neq_step_other (x := xs[k]) (y := ys[k]) hq
          have HQ := Lib.hid hq; clear hq
          go_wp2_with fail
          go_quiet (fail)
          go_wp2_with fail
          go_ret
          exact ⟨by rw [R.out, decide_eq_false (fun h => HQ.out (by subst h; rfl))]; rfl, by first | exact ⟨_, rfl⟩ | exact exN _ _ _⟩
      · have e : k = xs.length := by omega
        go_wp2_with fail
        go_ret
        exact ⟨by rw [R.out, decide_eq_true (take_all_eq e HE.out hT.out)]; rfl, _, rfl⟩
  · have he' : ((xs.length : Int) != ys.length) = true := by simp; omega
    go_enter Try.func53, Try.ntmps53
    go_wp2_with fail
    go_ret
    exact ⟨by rw [R.out, decide_eq_false (fun h => he (by rw [h]))]; rfl, 0, rfl⟩

/-- p begins with q. -/
def begins (p q : List GStep) : Bool := decide (q.length ≤ p.length) && decide (p.take q.length = q)

theorem SA.take {α : Type} [Rep α] {w : World} {l : List α} {A : Option Addr} {c : Nat} (h : SA w l A c) (k : Nat) (hk : k ≤ l.length) : SA w (l.take k) A c ∧ (l.take k).length = k := by
  obtain ⟨F, ⟨h1, h2, h3⟩, hF⟩ := h
  refine ⟨?_, by simp; omega⟩
  rcases h3 with ⟨rfl, rfl⟩ | ⟨b, off, F', xs, hA, rfl, he, hc⟩
  · exact ⟨[], ⟨by simp, h2, .inl ⟨by simp, rfl⟩⟩, by simp⟩
  · rw [← List.take_append_drop k l] at he
    obtain ⟨F1, F2, x1, x2, rfl, rfl, he1, _⟩ := he.split
    refine ⟨b :: F1, ⟨by simp; omega, h2, .inr ⟨b, off, F1, x1, hA, rfl, he1, fun j v hj => ?_⟩⟩, fun x hx => hF x ?_⟩
    · exact hc j v (by rw [List.getElem?_append_left (List.getElem?_eq_some_iff.1 hj).1]; exact hj)
    · simp only [List.mem_cons, List.mem_append] at hx ⊢
      rcases hx with rfl | hx
      · exact .inl rfl
      · exact .inr (.inl hx)

theorem l24Begins_any (p q : List GStep) (A A' : Option Addr) (c c' : Nat) (w : World) (hp : SA w p A c) (hq : SA w q A' c') :
    Calls Try.prog 37 #[.slice A p.length c, .slice A' q.length c'] w (RetQ w (.bool (begins p q))) := by
  obtain ⟨r, hr⟩ : ∃ r, r = begins p q := ⟨_, rfl⟩
  rw [← hr]
  have R := Lib.hid hr; clear hr
  have hl : p.length ≤ c ∧ c ≤ 9223372036854775807 := by have := hp.len; unfold maxLen at this; omega
  have hl' : q.length ≤ 9223372036854775807 := by have := hq.len; unfold maxLen at this; omega
  by_cases h : q.length ≤ p.length
  · obtain ⟨ht, hn⟩ := hp.take q.length h
    have C := l18SamePath_any (p.take q.length) q A A' c c' w ht hq
    rw [hn] at C
    have K := Lib.hid C; clear C ht hn hp hq
    go_enter Try.func37, Try.ntmps37
    go_wp2_with fail
    refine K.out.mono ?_
    rintro e w1 ⟨rfl, nd, rfl⟩
    go_wp2_with fail
    go_ret
    exact ⟨by rw [R.out]; simp [begins, h], nd, rfl⟩
  · have h' : decide (q.length ≤ p.length) = false := by simpa using h
    have R' := Lib.hid (show r = false by rw [R.out]; simp [begins, h])
    clear hp hq
    go_enter Try.func37, Try.ntmps37
    go_wp2_with fail
    go_ret
    exact ⟨by rw [R'.out]; rfl, 0, rfl⟩
theorem hasPrefix_any (p q : List GStep) (A A' : Option Addr) (c c' : Nat) (w : World) (hp : SA w p A c) (hq : SA w q A' c') :
    Calls Try.prog 42 #[.slice A p.length c, .slice A' q.length c'] w (RetQ w (.bool (begins p q))) := by
  obtain ⟨r, hr⟩ : ∃ r, r = begins p q := ⟨_, rfl⟩
  rw [← hr]
  have R := Lib.hid hr; clear hr
  have hl : p.length ≤ c ∧ c ≤ 9223372036854775807 := by have := hp.len; unfold maxLen at this; omega
  have hl' : q.length ≤ 9223372036854775807 := by have := hq.len; unfold maxLen at this; omega
  by_cases h : q.length ≤ p.length
  · obtain ⟨ht, hn⟩ := hp.take q.length h
    have C := equalStep_any (p.take q.length) q A A' c c' w ht hq
    rw [hn] at C
    have K := Lib.hid C; clear C ht hn hp hq
    go_enter Try.func42, Try.ntmps42
    go_wp2_with fail
    refine K.out.mono ?_
    rintro e w1 ⟨rfl, nd, rfl⟩
    go_wp2_with fail
    go_ret
    exact ⟨by rw [R.out]; simp [begins, h], nd, rfl⟩
  · have h' : decide (q.length ≤ p.length) = false := by simpa using h
    have R' := Lib.hid (show r = false by rw [R.out]; simp [begins, h])
    clear hp hq
    go_enter Try.func42, Try.ntmps42
    go_wp2_with fail
    go_ret
    exact ⟨by rw [R'.out]; rfl, 0, rfl⟩

def hurtL (l : List GLoss) (p : List GStep) : Bool := l.any fun x => begins x.p p
def hurtAboveL (l : List GLoss) (p : List GStep) : Bool := l.any fun x => begins p x.p && decide (x.p.length < p.length)

theorem specHurt_any (l : List GLoss) (p : List GStep) (A A' : Option Addr) (c c' : Nat) (w : World) (hl : SA w l A c) (hp : SA w p A' c') :
    Calls Try.prog 12 #[.slice A l.length c, .slice A' p.length c'] w (RetQ w (.bool (hurtL l p))) := by
  unfold hurtL
  obtain ⟨r, hr⟩ : ∃ r, r = l.any fun x => begins x.p p := ⟨_, rfl⟩
  rw [← hr]
  have R := Lib.hid hr; clear hr
  have hm : l.length ≤ 9223372036854775807 := by have := hl.len; unfold maxLen at this; omega
  have E := Lib.hid (And.intro hl hp); clear hl hp
  go_enter Try.func12, Try.ntmps12
  go_wp2_with fail
  go_loopg [5] l.length (fun gk i wr => ∃ k : Nat, k ≤ l.length ∧ i = .int .i64 k ∧ gk = l.length - k ∧ Hid ((l.take k).any (fun x => begins x.p p) = false) ∧ ∃ n, wr = w.drewN n)
  case atStart => exact ⟨0, by omega, rfl, by omega, rfl, 0, rfl⟩
  case round =>
    obtain ⟨k, hk, rfl, rfl, hT, nd, rfl⟩ := hrel
    by_cases hlt : k < l.length
    · obtain ⟨b, off, A1, c1, rfl, hb, hI, hs, k0, k1⟩ := E.out.1.loss_at hlt
      have HS := Lib.hid hs; clear hs
      cases hB : begins l[k].p p
      all_goals
        have HB := Lib.hid hB; clear hB
        go_wp2_with fail
        refine (l24Begins_any l[k].p p A1 A' c1 c' _ (HS.out.drewN _) (E.out.2.drewN _)).mono ?_
        rintro e w1 ⟨rfl, nq, rfl⟩
        rw [HB.out]
        go_wp2_with fail
      · go_roundg (l.length - (k + 1))
        case measure => omega
        case rel => exact ⟨k + 1, by omega, by go_num, rfl, anyT_snoc hlt hT.out HB.out, by first | exact ⟨_, rfl⟩ | exact exN _ _ _⟩
      · go_ret
        exact ⟨by rw [R.out, anyT_hit (f := fun x => begins x.p p) hlt HB.out]; rfl, by first | exact ⟨_, rfl⟩ | exact exN _ _ _⟩
    · have e : k = l.length := by omega
      go_wp2_with fail
      go_ret
      exact ⟨by rw [R.out, anyT_end e hT.out]; rfl, _, rfl⟩

theorem indexFuncLoss_any (l : List GLoss) (A : Option Addr) (c : Nat) (w : World) (fn : Nat) (v : Value) (f : GLoss → Bool) (hl : SA w l A c) (hcf : ∀ (a : Array Value) (w : World), (callFunc fn a).run Try.prog w = .ok (.enter fn a) w)
    (H : ∀ i (hi : i < l.length) (A' : Option Addr) (c' : Nat) (w1 : World), Below w.heap.size w w1 → SA w1 l[i].p A' c' → Calls Try.prog fn #[.agg #[.int .i64 l[i].kind, .slice A' l[i].p.length c'], v] w1 (Ret w1 (.bool (f l[i])))) :
    Calls Try.prog 52 #[.slice A l.length c, .func (.func fn) #[] #[v]] w (Ret w (.int .i64 (idxOf f l))) := by
  obtain ⟨r, hr⟩ : ∃ r, r = idxOf f l := ⟨_, rfl⟩
  rw [← hr]
  have R := Lib.hid hr; clear hr
  have hm : l.length ≤ 9223372036854775807 := by have := hl.len; unfold maxLen at this; omega
  have E := Lib.hid hl; clear hl
  have HH := Lib.hid H; clear H
  go_enter Try.func52, Try.ntmps52
  go_wp2_with fail
  go_loopg [8] l.length (fun gk i wr => ∃ k : Nat, k ≤ l.length ∧ i = .int .i64 k ∧ gk = l.length - k ∧ Hid ((l.take k).any f = false) ∧ Below w.heap.size w wr)
  case atStart => exact ⟨0, by omega, rfl, by omega, rfl, bRf w⟩
  case round =>
    obtain ⟨k, hk, rfl, rfl, hT, hbel⟩ := hrel
    by_cases hlt : k < l.length
    · obtain ⟨b, off, A1, c1, rfl, hb, hI, hs, k0, k1⟩ := (E.out.below hbel).loss_at hlt
      have HS := Lib.hid hs; clear hs
      cases hB : f l[k]
      all_goals
        have HB := Lib.hid hB; clear hB
        go_wp2_with fail
        refine (HH.out k hlt A1 c1 _ hbel HS.out).mono ?_
        rintro e w1 ⟨rfl, hb1⟩
        rw [HB.out]
        go_wp2_with fail
      · go_roundg (l.length - (k + 1))
        case measure => omega
        case rel => exact ⟨k + 1, by omega, by go_num, rfl, anyT_snoc hlt hT.out HB.out, bTr hbel hb1⟩
      · go_ret
        exact ⟨by rw [R.out, idxOf_hit hlt hT.out HB.out]; rfl, bTr hbel hb1⟩
    · have e : k = l.length := by omega
      go_wp2_with fail
      go_ret
      exact ⟨by rw [R.out, idxOf_end e hT.out]; rfl, hbel⟩
end Go.Proofs.Ytiglgjginjbfoaa
