/- Contracts: values at steps and paths, in the program and in the reference. -/
import Derived.Test.YtblcmajhdndmfaaPlace
import Derived.BigQuiet
import Derived.Deep.QuietTactic
import Derived.Deep.RegionHeld3
import Derived.StillTailTactics
import Derived.Deep.CutRange
namespace Go.Proofs.Ytblcmajhdndmfaa
open Go.RowKit
set_option linter.unusedVariables false
set_option maxRecDepth 100000

/-- A value, or Go's zero value. -/
def zv (o : Option GVal) : GVal := o.getD ⟨0, 0, 0, .empty, []⟩
/-- A value and whether there is one. -/
def valB (g : GVal) (A : Option Addr) (c : Nat) (b : Bool) : Value := .tuple #[.agg #[.int .i64 g.kind, .int .i64 g.n, .int .i64 g.x, .string g.s, .slice A g.l.length c], .bool b]
def RetVB (w : World) (o : Option GVal) (e : Ending) (w' : World) : Prop :=
  ∃ A' c', e = .returned (valB (zv o) A' c' o.isSome) ∧ SF w.heap.size w' (zv o).l A' c' ∧ VInt (zv o) ∧ Below w.heap.size w w'
def RetVA (w : World) (o : Option GVal) (e : Ending) (w' : World) : Prop :=
  ∃ A' c', e = .returned (valB (zv o) A' c' o.isSome) ∧ SA w' (zv o).l A' c' ∧ VInt (zv o) ∧ Below w.heap.size w w'
theorem zvInt : VInt ⟨0, 0, 0, .empty, []⟩ := ⟨I64.zero, I64.zero, I64.zero, by simp [ByteArray.size]⟩
theorem zvSF {α : Type} [Rep α] (base : Nat) (w : World) : SF (α := α) base w [] none 0 := ⟨[], ⟨by simp, by simp, .inl ⟨rfl, rfl, fun _ => rfl⟩⟩, Fresh.nil _ _⟩

theorem specStepVal_any (v : GVal) (s : GStep) (A : Option Addr) (c : Nat) (w : World) (hn : bulkVal v ≤ 1048576) (hI : I64 s.at_) (hv : VInt v) (hx : SA w v.l A c) :
    Calls Try.prog 96 #[.agg #[.int .i64 v.kind, .int .i64 v.n, .int .i64 v.x, .string v.s, .slice A v.l.length c], .agg #[.int .i64 s.at_, .bool s.name]] w (RetVB w (stepG v s)) := by
  have hn1 := Nat.le_trans (bulk_len v) hn
  have b0 := Lib.hid (bAl (bAl (bAl (bRf w) (.cells #[.int .i64 v.kind, .int .i64 v.n, .int .i64 v.x, .string v.s, .slice A v.l.length c] 40)) (.cells #[.int .i64 s.at_, .bool s.name] 109)) (.cells #[.int .i64 0, .int .i64 0, .int .i64 0, .string .empty, .slice none 0 0] 40))
  have E := Lib.hid (hx.below b0.out); clear hx
  have HI := Lib.hid hv; clear hv
  rcases placeI_range v s with hp | ⟨i, hp, hi⟩
  · rw [stepG_none hp]
    have HP := Lib.hid hp; clear hp
    go_enter Try.func96, Try.ntmps96
    go_wp2_with (go_at_call 114; (refine (l8Place_any v s A c _ hn1 hI).mono ?_; rintro e w1 ⟨rfl, hb1⟩; rw [HP.out]; obtain ⟨hc, hf⟩ := bCell hb1; have hz : w.heap.size + 1 + 1 < w1.heap.size := (by have := hb1.size; simp at this; omega); have b1 := Lib.hid (bTr b0.out hb1); clear hb1))
    refine bodyPost_ret (v := valB (zv none) none 0 false) (by simp [results, valB, zv, Try.results96, go_sem, *] <;> rfl) rfl ?_
    refine ⟨none, 0, rfl, zvSF _ _, zvInt, ?_⟩
    refine Below.setCell (Below.setCell (Below.setCell (Below.setCell (Below.setCell b1.out ?_ _) ?_ _) ?_ _) ?_ _) ?_ _
    all_goals (simp; try omega)
  · rw [stepG_some hp hi]
    have HP := Lib.hid hp; clear hp
    go_enter Try.func96, Try.ntmps96
    go_wp2_with (go_at_call 114; (refine (l8Place_any v s A c _ hn1 hI).mono ?_; rintro e w1 ⟨rfl, hb1⟩; rw [HP.out]; obtain ⟨hc, hf⟩ := bCell hb1; have hz : w.heap.size + 1 + 1 < w1.heap.size := (by have := hb1.size; simp at this; omega); have hz' : w.heap.size < w1.heap.size := (by omega); have b1 := Lib.hid (bTr b0.out hb1); have E1 := Lib.hid (E.out.below hb1); obtain ⟨b, off, A', c', rfl, hb, hI', hs, k0, k1, k2, k3, k4⟩ := E1.out.val_at hi; have HS := Lib.hid (And.intro hI' hs); clear hb1 hI' hs))
    have hbk : bulkVal v.l[i] ≤ 1048576 := by have := bulk_at hi; omega
    refine (copyS_ind v.l[i] A' c' _ hbk HS.out.1 HS.out.2).mono ?_
    rintro e w2 ⟨A2, c2, rfl, hsf, hb2⟩
    obtain ⟨hc2, hf2⟩ := bCell hb2
    have hz2 : w.heap.size + 1 + 1 < w2.heap.size := (by have := hb2.size; omega)
    have b2 := Lib.hid (bTr b1.out hb2); clear hb2
    have S2 := Lib.hid hsf; clear hsf
    go_wp2_with fail
    refine bodyPost_ret (v := valB (zv (some v.l[i])) A2 c2 true) (by simp [results, valB, zv, Try.results96, go_sem, *] <;> rfl) rfl ?_
    refine ⟨A2, c2, rfl, ?_, HS.out.1, ?_⟩
    · refine SF.mono (base := w1.heap.size) ?_ (by omega)
      refine SF.set (SF.set (SF.set (SF.set (SF.set S2.out ?_ _) ?_ _) ?_ _) ?_ _) ?_ _
      all_goals (simp; try omega)
    · refine Below.setCell (Below.setCell (Below.setCell (Below.setCell (Below.setCell b2.out ?_ _) ?_ _) ?_ _) ?_ _) ?_ _
      all_goals (simp; try omega)

end Go.Proofs.Ytblcmajhdndmfaa
