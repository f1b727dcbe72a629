/- Contracts: copies of losses and outs, in the program. -/
import Derived.Test.YtblcmajhdndmfaaPaths2
import Derived.Test.YtblcmajhdndmfaaLaw3
namespace Go.Proofs.Ytblcmajhdndmfaa
open Go.RowKit
set_option linter.unusedVariables false
set_option maxRecDepth 100000

theorem bytePlain : ∀ (w : World) (F : List Nat) (a : UInt8) (cs : List Value), Rep.rp w F a cs → F = [] := fun _ _ _ _ h => h.1

theorem cloneByte_any (p : List UInt8) (A : Option Addr) (c : Nat) (w : World) (hn : p.length ≤ 4194304) (hp : SA w p A c) :
    Calls Try.prog 100 #[.slice A p.length c] w (RetS w p) := by
  cases A with
  | none =>
    obtain ⟨rfl, rfl⟩ := hp.none_nil
    have q : ∀ w, (binOp .eql 22 (.slice none 0 0) (.slice none 0 0)).run Try.prog w = .ok (.bool true) w := fun w => Lib.run_eql_slice_nil w _ _ none 0 0 0 0 Try.underlying22
    go_enter Try.func100, Try.ntmps100
    go_wp2_with fail
    go_ret
    exact ⟨none, 0, rfl, ⟨[], ⟨by simp, by simp, .inl ⟨rfl, rfl, fun _ => rfl⟩⟩, Fresh.nil _ _⟩, bRf w⟩
  | some a =>
    have q : ∀ w, (binOp .eql 22 (.slice (some a) p.length c) (.slice none 0 0)).run Try.prog w = .ok (.bool false) w := fun w => Lib.run_eql_slice_nil w _ _ (some a) p.length c 0 0 Try.underlying22
    have E := Lib.hid hp; clear hp
    go_enter Try.func100, Try.ntmps100
    go_wp2_with (at_builtin; (refine app_list rfl _ _ 22 rfl (v := .slice (some ⟨_, 0, none⟩) 0 0) (u := .slice (some a) p.length c) rfl rfl (run_app_P bytePlain 22 _ w.heap.size 5 (.int .u8 0) 1 Try.underlying22 infoByte rfl (by decide) _ [] p (some a) c (OwnF.lit0' _ _ _ _ (by simp) (by omega)) (E.out.below (bAl (bRf w) _)) (by simp; omega) (by simp; unfold maxLen; omega) (by simp)) ?_; rintro v1 w1 ⟨ho, hbl, hloc, hg⟩; rw [List.nil_append] at ho; obtain ⟨A1, c1, rfl⟩ := ho.form; have HO := Lib.hid (And.intro ho hbl); clear ho hbl hloc hg))
    go_ret
    exact ⟨A1, c1, rfl, HO.out.1.sf.2, (bAl (bRf w) _).trans HO.out.2⟩

set_option maxHeartbeats 1000000 in
theorem copyLossesF_any (l : List GLoss) (A : Option Addr) (c : Nat) (w : World) (hn : bulkLossS l ≤ 1048576) (hl : SA w l A c) :
    Calls Try.prog 101 #[.slice A l.length c] w fun e w' => ∃ A' c', e = .returned (.slice A' l.length c') ∧ OwnF w' w.heap.size 88 (.slice A' l.length c') l ∧ Below w.heap.size w w' := by
  have hn1 : l.length ≤ 1048576 := by unfold bulkLossS at hn; omega
  have hp : Hid (∀ k (h : k < l.length), l[k].p.length ≤ 1048576) := fun k h => by
    have := le_sum_at bulkLoss l h; unfold bulkLossS bulkLoss at *; omega
  have E := Lib.hid hl; clear hl hn
  go_enter Try.func101, Try.ntmps101
  go_wp2_with fail
  go_loopg [3, 9] l.length (fun gk rv i wr => ∃ k : Nat, k ≤ l.length ∧ i = .int .i64 k ∧ gk = l.length - k ∧ OwnF wr w.heap.size 88 rv (l.take k) ∧ Below w.heap.size w wr)
  case atStart => exact ⟨0, by omega, rfl, by omega, OwnF.lit0' _ _ _ _ (by simp) (by omega), bAl (bRf w) _⟩
  case round =>
    obtain ⟨k, hk, rfl, rfl, hown, hbel⟩ := hrel
    by_cases hlt : k < l.length
    · obtain ⟨b, off, A1, c1, rfl, hb, hI, hs, k0, k1⟩ := (E.out.below hbel).loss_at hlt
      have HS := Lib.hid (And.intro hI hs); clear hI hs
      have HOW := Lib.hid hown; clear hown
      have X0 := Lib.hid (Blk.new wr 88 #[.int .i64 l[k].kind, .slice A1 l[k].p.length c1])
      have htk : (l.take k).length = k := by rw [List.length_take]; omega
      have htk1 : (l.take (k + 1)).length = k + 1 := by rw [List.length_take]; omega
      have hzw : w.heap.size ≤ wr.heap.size := hbel.size
      go_wp2_with fail
      go_region_held3 (fun u => u.cell? ⟨wr.heap.size, 0, none⟩ = some (.int .i64 l[k].kind) ∧ u.cell? ⟨wr.heap.size, 1, none⟩ = some (.slice A1 l[k].p.length c1)) (go_keep)
        (first
          | (go_at_call 116; (refine (cloneStep_any l[k].p A1 c1 _ (by have := hp.out k hlt; omega) ((HS.out.2.below (bAl (bRf wr) _)).drew)).mono ?_; rintro e w3 ⟨A3, c3, rfl, hs3, hb3⟩; have HB3 := Lib.hid (show Below wr.heap.size wr w3 from bTr (bAl (bRf wr) _).drew hb3); have HX3 := Lib.hid (X0.out.drew.below hb3); have HS3 := Lib.hid (show SF wr.heap.size w3 l[k].p A3 c3 from hs3.sf.2.mono (by simp)); obtain ⟨x0, x1⟩ := HX3.out.c2; clear hs3 hb3))
          | ((apply app_step (s := .tmp 13) (x := .tmp 20) (t := 28) (v := u3) (u := .slice (some ⟨w3.heap.size, 0, none⟩) 1 1); (try case hgd => exact rfl); (try case ho => exact rfl); (try case hs => exact rfl); (try case hx => exact rfl); (case hrun => exact run_app1_F (P := Try.prog) 28 28 w.heap.size 88 (.agg #[.int .i64 0, .slice none 0 0]) 32 Try.underlying28 infoLoss rfl (by decide) u3 (l.take k) l[k] [.int .i64 l[k].kind, .slice A3 l[k].p.length c3] wr ⟨w3.heap.size, 0, none⟩ 1 HOW.out (bAl HB3.out _) ((RF.loss (x := l[k]) HS.out.1 HS3.out).below (bAl (bRf w3) _)) (cells_at [_, _] rfl) (by rw [htk]; omega) (by rw [htk]; unfold maxLen; omega) hzw); rintro v5 w5 ⟨ho, hbl, _, hg⟩; rw [← List.take_succ_eq_append_getElem hlt] at ho; have HB5 := Lib.hid (show Below w.heap.size w w5 from (hbel.trans ((bAl HB3.out _).mono hzw)).trans hbl); have HX5 := Lib.hid ((HX3.out.alloc (.cells #[.int .i64 l[k].kind, .slice A3 l[k].p.length c3] 88)).grown hg (fun e => by have := (HOW.out.own_lt _ e).2; omega)); have HO5 := Lib.hid ho; obtain ⟨x0, x1⟩ := HX5.out.c2; clear ho hbl hg)))
      go_wp2_with fail
      go_roundg (l.length - (k + 1))
      case measure => omega
      case rel => exact ⟨k + 1, by omega, by go_num, rfl, HO5.out, HB5.out⟩
    · have e : k = l.length := by omega
      subst e
      rw [List.take_length] at hown
      obtain ⟨Av, cv, rfl⟩ := hown.form
      have HO := Lib.hid (And.intro hown hbel); clear hown hbel
      go_wp2_with fail
      go_ret
      exact ⟨Av, cv, rfl, HO.out.1, HO.out.2⟩
theorem copyLosses_any (l : List GLoss) (A : Option Addr) (c : Nat) (w : World) (hn : bulkLossS l ≤ 1048576) (hl : SA w l A c) :
    Calls Try.prog 101 #[.slice A l.length c] w (RetS w l) :=
  (copyLossesF_any l A c w hn hl).mono fun _ _ ⟨A', c', h1, h2, h3⟩ => ⟨A', c', h1, h2.sf.2, h3⟩
end Go.Proofs.Ytblcmajhdndmfaa
