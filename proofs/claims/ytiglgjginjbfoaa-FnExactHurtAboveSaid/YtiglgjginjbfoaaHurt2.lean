/- Contracts: Hurt and HurtAbove of the program. -/
import Derived.Test.YtiglgjginjbfoaaHurt
namespace Go.Proofs.Ytiglgjginjbfoaa
open Go.RowKit
set_option linter.unusedVariables false

theorem containsFuncLoss_any (l : List GLoss) (A : Option Addr) (c : Nat) (w : World) (fn : Nat) (v : Value) (f : GLoss → Bool) (hl : SA w l A c) (hcf : ∀ (a : Array Value) (w : World), (callFunc fn a).run Try.prog w = .ok (.enter fn a) w)
    (H : ∀ i (hi : i < l.length) (A' : Option Addr) (c' : Nat) (w1 : World), Below w.heap.size w w1 → SA w1 l[i].p A' c' → Calls Try.prog fn #[.agg #[.int .i64 l[i].kind, .slice A' l[i].p.length c'], v] w1 (Ret w1 (.bool (f l[i])))) :
    Calls Try.prog 40 #[.slice A l.length c, .func (.func fn) #[] #[v]] w (Ret w (.bool (l.any f))) := by
  have hr := idxOf_range f l
  have K := Lib.hid (indexFuncLoss_any l A c w fn v f hl hcf H)
  have D := Lib.hid (idxOf_any f l)
  clear hcf H hl
  generalize l.any f = r at *
  generalize idxOf f l = i at *
  by_cases h : 0 ≤ i
  all_goals
    go_enter Try.func40, Try.ntmps40
    go_wp2_with fail
    refine K.out.mono ?_
    rintro e w1 ⟨rfl, hb1⟩
    go_wp2_with fail
    go_ret
    exact ⟨by rw [← D.out]; simp [h], hb1⟩

theorem hurtF_any (x : GLoss) (p : List GStep) (A A' : Option Addr) (c c' : Nat) (w : World) (q : Nat) (hq : w.cell? ⟨q, 0, none⟩ = some (.slice A' p.length c')) (hx : SA w x.p A c) (hp : SA w p A' c') :
    Calls Try.prog 41 #[.agg #[.int .i64 x.kind, .slice A x.p.length c], .pointer (some ⟨q, 0, none⟩)] w (Ret w (.bool (begins x.p p))) := by
  have b0 := bAl (bRf w) (.cells #[.int .i64 x.kind, .slice A x.p.length c] 55)
  have hlt : q < w.heap.size := World.block_lt_of_cell? w _ hq
  have E := Lib.hid (hasPrefix_any x.p p A A' c c' _ (hx.below b0) (hp.below b0))
  clear hx hp
  go_enter Try.func41, Try.ntmps41
  go_wp2_with fail
  refine E.out.mono ?_
  rintro e w1 ⟨rfl, nd, rfl⟩
  go_wp2_with fail
  go_ret
  exact ⟨rfl, below_drewN b0 nd⟩

theorem implHurt_any (l : List GLoss) (p : List GStep) (A A' : Option Addr) (c c' : Nat) (w : World) (hl : SA w l A c) (hp : SA w p A' c') :
    Calls Try.prog 15 #[.slice A l.length c, .slice A' p.length c'] w (Ret w (.bool (hurtL l p))) := by
  have b0 := bAl (bRf w) (.cells #[.slice A' p.length c'] 29)
  have K := Lib.hid (containsFuncLoss_any l A c _ 41 (.pointer (some ⟨w.heap.size, 0, none⟩)) (fun x => begins x.p p) (hl.below b0) (fun a w => by kernel_rfl)
    (fun i hi A1 c1 w1 hb hs => hurtF_any l[i] p A1 A' c1 c' w1 w.heap.size ((hb.cell (p := ⟨w.heap.size, 0, none⟩) (by simp)).trans (by simp)) hs ((hp.below b0).below hb)))
  clear hl hp
  unfold hurtL
  go_enter Try.func15, Try.ntmps15
  go_wp2_with fail
  refine K.out.mono ?_
  rintro e w1 ⟨rfl, hb1⟩
  go_wp2_with fail
  go_ret
  exact ⟨rfl, bTr b0 hb1⟩

theorem specHurtAbove_any (l : List GLoss) (p : List GStep) (A A' : Option Addr) (c c' : Nat) (w : World) (hl : SA w l A c) (hp : SA w p A' c') :
    Calls Try.prog 18 #[.slice A l.length c, .slice A' p.length c'] w (RetQ w (.bool (hurtAboveL l p))) := by
  unfold hurtAboveL
  obtain ⟨f, hf⟩ : ∃ f : GLoss → Bool, f = fun x => begins p x.p && decide (x.p.length < p.length) := ⟨_, rfl⟩
  rw [← hf]
  obtain ⟨r, hr⟩ : ∃ r, r = l.any f := ⟨_, rfl⟩
  rw [← hr]
  have R := Lib.hid hr; clear hr
  have hm : l.length ≤ 9223372036854775807 := by have := hl.len; unfold maxLen at this; omega
  have hm' : p.length ≤ 9223372036854775807 := by have := hp.len; unfold maxLen at this; omega
  have E := Lib.hid (And.intro hl hp); clear hl hp
  have F := Lib.hid hf; clear hf
  go_enter Try.func18, Try.ntmps18
  go_wp2_with fail
  go_loopg [5] l.length (fun gk i wr => ∃ k : Nat, k ≤ l.length ∧ i = .int .i64 k ∧ gk = l.length - k ∧ Hid ((l.take k).any f = false) ∧ ∃ n, wr = w.drewN n)
  case atStart => exact ⟨0, by omega, rfl, by omega, rfl, 0, rfl⟩
  case round =>
    obtain ⟨k, hk, rfl, rfl, hT, nd, rfl⟩ := hrel
    by_cases hlt : k < l.length
    · obtain ⟨b, off, A1, c1, rfl, hb, hI, hs, k0, k1⟩ := E.out.1.loss_at hlt
      have HS := Lib.hid hs
      have hm2 : l[k].p.length ≤ 9223372036854775807 := by have := hs.len; unfold maxLen at this; omega
      clear hs
      cases hB : begins p l[k].p
      · have HB := Lib.hid (show f l[k] = false by rw [F.out]; simp [hB])
        have HB' := Lib.hid hB; clear hB
        go_wp2_with fail
        refine (l24Begins_any p l[k].p A' A1 c' c1 _ (E.out.2.drewN _) (HS.out.drewN _)).mono ?_
        rintro e w1 ⟨rfl, nq, rfl⟩
        rw [HB'.out]
        go_wp2_with fail
        go_roundg (l.length - (k + 1))
        case measure => omega
        case rel => exact ⟨k + 1, by omega, by go_num, rfl, anyT_snoc hlt hT.out HB.out, by first | exact ⟨_, rfl⟩ | exact exN _ _ _⟩
      · by_cases hc : l[k].p.length < p.length
        · have HB := Lib.hid (show f l[k] = true by rw [F.out]; simp [hB, hc])
          have HB' := Lib.hid hB; clear hB
          go_wp2_with fail
          refine (l24Begins_any p l[k].p A' A1 c' c1 _ (E.out.2.drewN _) (HS.out.drewN _)).mono ?_
          rintro e w1 ⟨rfl, nq, rfl⟩
          rw [HB'.out]
          go_wp2_with fail
          go_ret
          exact ⟨by rw [R.out, anyT_hit hlt HB.out]; rfl, by first | exact ⟨_, rfl⟩ | exact exN _ _ _⟩
        · have HB := Lib.hid (show f l[k] = false by rw [F.out]; simp [hc])
          have HB' := Lib.hid hB; clear hB
          have hc' : decide (l[k].p.length < p.length) = false := by simpa using hc
          go_wp2_with fail
          refine (l24Begins_any p l[k].p A' A1 c' c1 _ (E.out.2.drewN _) (HS.out.drewN _)).mono ?_
          rintro e w1 ⟨rfl, nq, rfl⟩
          rw [HB'.out]
          go_wp2_with fail
          go_roundg (l.length - (k + 1))
          case measure => omega
          case rel => exact ⟨k + 1, by omega, by go_num, rfl, anyT_snoc hlt hT.out HB.out, by first | exact ⟨_, rfl⟩ | exact exN _ _ _⟩
    · have e : k = l.length := by omega
      go_wp2_with fail
      go_ret
      exact ⟨by rw [R.out, anyT_end e hT.out]; rfl, _, rfl⟩

theorem hurtAboveF_any (x : GLoss) (p : List GStep) (A A' : Option Addr) (c c' : Nat) (w : World) (q : Nat) (hq : w.cell? ⟨q, 0, none⟩ = some (.slice A' p.length c')) (hx : SA w x.p A c) (hp : SA w p A' c') :
    Calls Try.prog 45 #[.agg #[.int .i64 x.kind, .slice A x.p.length c], .pointer (some ⟨q, 0, none⟩)] w (Ret w (.bool (begins p x.p && decide (x.p.length < p.length)))) := by
  have b0 := bAl (bRf w) (.cells #[.int .i64 x.kind, .slice A x.p.length c] 55)
  have hlt : q < w.heap.size := World.block_lt_of_cell? w _ hq
  have hm : x.p.length ≤ 9223372036854775807 := by have := hx.len; unfold maxLen at this; omega
  have hm' : p.length ≤ 9223372036854775807 := by have := hp.len; unfold maxLen at this; omega
  have E := Lib.hid (hasPrefix_any p x.p A' A c' c _ (hp.below b0) (hx.below b0))
  clear hx hp
  by_cases hc : x.p.length < p.length
  · obtain ⟨r, hr⟩ : ∃ r, r = (begins p x.p && decide (x.p.length < p.length)) := ⟨_, rfl⟩
    rw [← hr]
    have R := Lib.hid (hr.trans (show _ = begins p x.p by simp [hc])); clear hr
    go_enter Try.func45, Try.ntmps45
    go_wp2_with fail

    refine E.out.mono ?_
    rintro e w1 ⟨rfl, nd, rfl⟩
    go_wp2_with fail
    go_ret
    exact ⟨by rw [R.out]; rfl, below_drewN b0 nd⟩
  · obtain ⟨r, hr⟩ : ∃ r, r = (begins p x.p && decide (x.p.length < p.length)) := ⟨_, rfl⟩
    rw [← hr]
    have R := Lib.hid (hr.trans (show _ = false by simp [hc])); clear hr
    have hc' : decide (x.p.length < p.length) = false := by simpa using hc
    go_enter Try.func45, Try.ntmps45
    go_wp2_with fail

    go_ret
    exact ⟨by rw [R.out]; rfl, b0⟩

theorem implHurtAbove_any (l : List GLoss) (p : List GStep) (A A' : Option Addr) (c c' : Nat) (w : World) (hl : SA w l A c) (hp : SA w p A' c') :
    Calls Try.prog 19 #[.slice A l.length c, .slice A' p.length c'] w (Ret w (.bool (hurtAboveL l p))) := by
  have b0 := bAl (bRf w) (.cells #[.slice A' p.length c'] 29)
  have K := Lib.hid (containsFuncLoss_any l A c _ 45 (.pointer (some ⟨w.heap.size, 0, none⟩)) (fun x => begins p x.p && decide (x.p.length < p.length)) (hl.below b0) (fun a w => by kernel_rfl)
    (fun i hi A1 c1 w1 hb hs => hurtAboveF_any l[i] p A1 A' c1 c' w1 w.heap.size ((hb.cell (p := ⟨w.heap.size, 0, none⟩) (by simp)).trans (by simp)) hs ((hp.below b0).below hb)))
  clear hl hp
  unfold hurtAboveL
  go_enter Try.func19, Try.ntmps19
  go_wp2_with fail
  refine K.out.mono ?_
  rintro e w1 ⟨rfl, hb1⟩
  go_wp2_with fail
  go_ret
  exact ⟨rfl, bTr b0 hb1⟩
end Go.Proofs.Ytiglgjginjbfoaa
