/- Contracts: equality of paths, in the program and in the reference. -/
import Derived.Test.YtblcmajhdndmfaaLaw2
import Derived.Laws.StructEq
import Derived.BigQuiet
import Derived.Deep.QuietTactic
namespace Go.Proofs.Ytblcmajhdndmfaa
open Go.RowKit
set_option linter.unusedVariables false
set_option maxRecDepth 100000

/-- A value, and nothing but draws. -/
def RetQ (w : World) (v : Value) (e : Ending) (w' : World) : Prop := e = .returned v ∧ ∃ n, w' = w.drewN n
theorem RetQ.ret {w w' : World} {v : Value} {e : Ending} (h : RetQ w v e w') : Ret w v e w' := by
  obtain ⟨h1, n, rfl⟩ := h
  exact ⟨h1, below_drewN (bRf w) n⟩

theorem quietV {P : Program} {f : FuncId} {args : Array Value} {w : World} {v : Value} (h : ∀ n, Calls P f args (w.drewN n) (RetQ (w.drewN n) v)) (n : Nat) :
    Calls P f args (w.drewN n) fun e w'' => e = .returned v ∧ ∃ m, w'' = w.drewN m := Calls.quiet_of (h n)
theorem exN (w : World) (a b : Nat) : ∃ n, (w.drewN a).drewN b = w.drewN n := ⟨a + b, by rw [World.drewN_drewN]⟩
theorem stepStruct : Try.prog.underlying 109 = some (.struct (Try.prog.fieldsOf 109)) := by kernel_rfl
theorem stepStood : Try.prog.stoodInHeld 109 = false := by kernel_rfl
theorem neq_step (x y : GStep) (w : World) : (binOp .neq 109 (.agg #[.int .i64 x.at_, .bool x.name]) (.agg #[.int .i64 y.at_, .bool y.name])).run Try.prog w = .ok (.bool (!(decide (x = y)))) w := by
  have e : decide (x = y) = (decide (x.at_ = y.at_) && decide (x.name = y.name)) := by
    cases x; cases y; simp
  rw [e]
  generalize x.at_ = a
  generalize y.at_ = b
  generalize x.name = m
  generalize y.name = n
  simp only [binOp]
  simp [Op.equal, Op.maxDepth, run_equalIn_struct w 9999 109 _ _ stepStruct stepStood, go_sem]
  by_cases h1 : a = b <;> by_cases h2 : m = n <;> simp [h1, h2]
theorem neq_step_same {x y : GStep} (h : x = y) (w : World) : (binOp .neq 109 (.agg #[.int .i64 x.at_, .bool x.name]) (.agg #[.int .i64 y.at_, .bool y.name])).run Try.prog w = .ok (.bool false) w := by
  rw [neq_step, decide_eq_true h]; rfl
theorem neq_step_other {x y : GStep} (h : x ≠ y) (w : World) : (binOp .neq 109 (.agg #[.int .i64 x.at_, .bool x.name]) (.agg #[.int .i64 y.at_, .bool y.name])).run Try.prog w = .ok (.bool true) w := by
  rw [neq_step, decide_eq_false h]; rfl

theorem l18SamePath_any (xs ys : List GStep) (A A' : Option Addr) (c c' : Nat) (w : World) (hx : SA w xs A c) (hy : SA w ys A' c') :
    Calls Try.prog 89 #[.slice A xs.length c, .slice A' ys.length c'] w (RetQ w (.bool (decide (xs = ys)))) := by
  obtain ⟨r, hr⟩ : ∃ r, r = decide (xs = ys) := ⟨_, rfl⟩
  rw [← hr]
  have R := Lib.hid hr; clear hr
  have hl : xs.length ≤ 9223372036854775807 := by have := hx.len; unfold maxLen at this; omega
  have hl' : ys.length ≤ 9223372036854775807 := by have := hy.len; unfold maxLen at this; omega
  have E := Lib.hid (And.intro hx hy); clear hx hy
  by_cases he : xs.length = ys.length
  · have he' : ((xs.length : Int) != ys.length) = false := by simp [he]
    have HE := Lib.hid he; clear he
    go_enter Try.func89, Try.ntmps89
    go_wp2_with fail
    go_loopg [5] xs.length (fun gk i wr => ∃ k : Nat, k ≤ xs.length ∧ i = .int .i64 k ∧ gk = xs.length - k ∧ Hid (xs.take k = ys.take k) ∧ ∃ n, wr = w.drewN n)
    case atStart => exact ⟨0, by omega, rfl, by omega, rfl, 0, rfl⟩
    case round =>
      obtain ⟨k, hk, rfl, rfl, hT, nd, rfl⟩ := hrel
      by_cases hlt : k < xs.length
      · obtain ⟨b, off, rfl, hb, hI, k0, k1⟩ := E.out.1.step_at hlt
        have hlt' : k < ys.length := HE.out ▸ hlt
        obtain ⟨b', off', rfl, hb', hI', k0', k1'⟩ := E.out.2.step_at hlt'
        have hi1 : (k : Int) < xs.length := by omega
        have hi2 : (k : Int) < ys.length := by omega
        have hi3 : (0 : Int) ≤ k := by omega
        rcases Decidable.em (xs[k] = ys[k]) with hq | hq
        · have hne := neq_step_same (x := xs[k]) (y := ys[k]) hq
          have HQ := Lib.hid hq; clear hq
          go_wp2_with fail
          go_quiet (fail)
          go_wp2_with fail
          go_roundg (xs.length - (k + 1))
          case measure => omega
          case rel => exact ⟨k + 1, by omega, by go_num, rfl, take_snoc_eq hlt hlt' hT.out HQ.out, by first | exact ⟨_, rfl⟩ | exact exN _ _ _⟩
        · have hne := neq_step_other (x := xs[k]) (y := ys[k]) hq
          have HQ := Lib.hid hq; clear hq
          go_wp2_with fail
          go_quiet (fail)
          go_wp2_with fail
          go_ret
          exact ⟨by rw [R.out, decide_eq_false (fun h => HQ.out (by subst h; rfl))]; rfl, by first | exact ⟨_, rfl⟩ | exact exN _ _ _⟩
      · have e : k = xs.length := by omega
        go_wp2_with fail
        go_ret
        exact ⟨by rw [R.out, decide_eq_true (take_all_eq e HE.out hT.out)]; rfl, _, rfl⟩
  · have he' : ((xs.length : Int) != ys.length) = true := by simp; omega
    go_enter Try.func89, Try.ntmps89
    go_wp2_with fail
    go_ret
    exact ⟨by rw [R.out, decide_eq_false (fun h => he (by rw [h]))]; rfl, 0, rfl⟩

theorem equalStep_any (xs ys : List GStep) (A A' : Option Addr) (c c' : Nat) (w : World) (hx : SA w xs A c) (hy : SA w ys A' c') :
    Calls Try.prog 93 #[.slice A xs.length c, .slice A' ys.length c'] w (RetQ w (.bool (decide (xs = ys)))) := by
  obtain ⟨r, hr⟩ : ∃ r, r = decide (xs = ys) := ⟨_, rfl⟩
  rw [← hr]
  have R := Lib.hid hr; clear hr
  have hl : xs.length ≤ 9223372036854775807 := by have := hx.len; unfold maxLen at this; omega
  have hl' : ys.length ≤ 9223372036854775807 := by have := hy.len; unfold maxLen at this; omega
  have E := Lib.hid (And.intro hx hy); clear hx hy
  by_cases he : xs.length = ys.length
  · have he' : ((xs.length : Int) != ys.length) = false := by simp [he]
    have HE := Lib.hid he; clear he
    go_enter Try.func93, Try.ntmps93
    go_wp2_with fail
    go_loopg [13] xs.length (fun gk i wr => ∃ k : Nat, k ≤ xs.length ∧ i = .int .i64 k ∧ gk = xs.length - k ∧ Hid (xs.take k = ys.take k) ∧ ∃ n, wr = w.drewN n)
    case atStart => exact ⟨0, by omega, rfl, by omega, rfl, 0, rfl⟩
    case round =>
      obtain ⟨k, hk, rfl, rfl, hT, nd, rfl⟩ := hrel
      by_cases hlt : k < xs.length
      · obtain ⟨b, off, rfl, hb, hI, k0, k1⟩ := E.out.1.step_at hlt
        have hlt' : k < ys.length := HE.out ▸ hlt
        obtain ⟨b', off', rfl, hb', hI', k0', k1'⟩ := E.out.2.step_at hlt'
        have hi1 : (k : Int) < xs.length := by omega
        have hi2 : (k : Int) < ys.length := by omega
        have hi3 : (0 : Int) ≤ k := by omega
        rcases Decidable.em (xs[k] = ys[k]) with hq | hq
        · have hne := neq_step_same (x := xs[k]) (y := ys[k]) hq
          have HQ := Lib.hid hq; clear hq
          go_wp2_with fail
          go_quiet (fail)
          go_wp2_with fail
          go_roundg (xs.length - (k + 1))
          case measure => omega
          case rel => exact ⟨k + 1, by omega, by go_num, rfl, take_snoc_eq hlt hlt' hT.out HQ.out, by first | exact ⟨_, rfl⟩ | exact exN _ _ _⟩
        · have hne := neq_step_other (x := xs[k]) (y := ys[k]) hq
          have HQ := Lib.hid hq; clear hq
          go_wp2_with fail
          go_quiet (fail)
          go_wp2_with fail
          go_ret
          exact ⟨by rw [R.out, decide_eq_false (fun h => HQ.out (by subst h; rfl))]; rfl, by first | exact ⟨_, rfl⟩ | exact exN _ _ _⟩
      · have e : k = xs.length := by omega
        go_wp2_with fail
        go_ret
        exact ⟨by rw [R.out, decide_eq_true (take_all_eq e HE.out hT.out)]; rfl, _, rfl⟩
  · have he' : ((xs.length : Int) != ys.length) = true := by simp; omega
    go_enter Try.func93, Try.ntmps93
    go_wp2_with fail
    go_ret
    exact ⟨by rw [R.out, decide_eq_false (fun h => he (by rw [h]))]; rfl, 0, rfl⟩

theorem samePath_same {xs ys : List GStep} (e : xs = ys) (A A' : Option Addr) (c c' : Nat) (w : World) (hx : SA w xs A c) (hy : SA w ys A' c') :
    Calls Try.prog 89 #[.slice A xs.length c, .slice A' ys.length c'] w (RetQ w (.bool true)) := by
  have h := l18SamePath_any xs ys A A' c c' w hx hy
  rwa [decide_eq_true e] at h
theorem samePath_other {xs ys : List GStep} (e : xs ≠ ys) (A A' : Option Addr) (c c' : Nat) (w : World) (hx : SA w xs A c) (hy : SA w ys A' c') :
    Calls Try.prog 89 #[.slice A xs.length c, .slice A' ys.length c'] w (RetQ w (.bool false)) := by
  have h := l18SamePath_any xs ys A A' c c' w hx hy
  rwa [decide_eq_false e] at h
theorem SA.take {α : Type} [Rep α] {w : World} {l : List α} {A : Option Addr} {c : Nat} (h : SA w l A c) (k : Nat) (hk : k ≤ l.length) : SA w (l.take k) A c ∧ (l.take k).length = k := by
  obtain ⟨F, ⟨h1, h2, h3⟩, hF⟩ := h
  refine ⟨?_, by simp; omega⟩
  rcases h3 with ⟨rfl, rfl, hz⟩ | ⟨b, off, F', xs, hA, rfl, he, hc⟩
  · exact ⟨[], ⟨by simp, h2, .inl ⟨by simp, rfl, hz⟩⟩, by simp⟩
  · rw [← List.take_append_drop k l] at he
    obtain ⟨F1, F2, x1, x2, rfl, rfl, he1, _⟩ := he.split
    refine ⟨b :: F1, ⟨by simp; omega, h2, .inr ⟨b, off, F1, x1, hA, rfl, he1, fun j v hj => ?_⟩⟩, fun x hx => hF x ?_⟩
    · exact hc j v (by rw [List.getElem?_append_left (List.getElem?_eq_some_iff.1 hj).1]; exact hj)
    · simp only [List.mem_cons, List.mem_append] at hx ⊢
      rcases hx with rfl | hx
      · exact .inl rfl
      · exact .inr (.inl hx)

end Go.Proofs.Ytblcmajhdndmfaa
