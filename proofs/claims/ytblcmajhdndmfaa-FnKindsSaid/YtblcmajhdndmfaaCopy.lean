/- Contracts: copies of trees, in the program and in the reference. -/
import Derived.Test.YtblcmajhdndmfaaCopyS
namespace Go.Proofs.Ytblcmajhdndmfaa
open Go.RowKit
set_option linter.unusedVariables false
set_option maxRecDepth 100000

def CopyI (v : GVal) : Prop := ∀ (A : Option Addr) (c : Nat) (w : World), bulkVal v ≤ 1048576 → VInt v → SA w v.l A c →
    Calls Try.prog 106 #[.agg #[.int .i64 v.kind, .int .i64 v.n, .int .i64 v.x, .string v.s, .slice A v.l.length c]] w fun e w' => ∃ A' c', e = .returned (.agg #[.int .i64 v.kind, .int .i64 v.n, .int .i64 v.x, .string v.s, .slice A' v.l.length c']) ∧ SF w.heap.size w' v.l A' c' ∧ Below w.heap.size w w'

theorem copyI_ind (v : GVal) : CopyI v := by
  refine GVal.ind (p := CopyI) (fun v IH => ?_) v
  intro A c w hn hI hx
  have hn1 : v.l.length ≤ 1048576 := by rw [bulkVal_eq, bulkVals_eq] at hn; omega
  have hp : Hid (∀ k (h : k < v.l.length), bulkVal v.l[k] ≤ 1048576) := fun k h => by
    have := le_sum_at bulkVal v.l h; rw [bulkVal_eq, bulkVals_eq] at hn; omega
  have IH' := Lib.hid IH; clear IH hn
  have E := Lib.hid hx; clear hx
  have HI := Lib.hid hI; clear hI
  go_enter Try.func106, Try.ntmps106
  go_wp2_with fail
  go_loopg [3, 9] v.l.length (fun gk rv i wr => ∃ (k : Nat), k ≤ v.l.length ∧ i = .int .i64 k ∧ gk = v.l.length - k ∧
    Blk wr w.heap.size 40 #[.int .i64 v.kind, .int .i64 v.n, .int .i64 v.x, .string v.s, .slice A v.l.length c] ∧
    Blk wr (w.heap.size + 1) 40 #[.int .i64 0, .int .i64 0, .int .i64 0, .string .empty, .slice none 0 0] ∧
    OwnF wr (w.heap.size + 1 + 1) 40 rv (v.l.take k) ∧ Below w.heap.size w wr)
  case atStart =>
    exact ⟨0, by omega, rfl, by omega, (Blk.at rfl).alloc _, Blk.at (by simp), OwnF.nil_ _ _ _, bAl (bAl (bRf w) _) _⟩
  case round =>
    obtain ⟨k, hk, rfl, rfl, hP0, hP1, hown, hbel⟩ := hrel
    by_cases hlt : k < v.l.length
    · obtain ⟨b, off, A', c', rfl, hb, hI, hs, k0, k1, k2, k3, k4⟩ := (E.out.below hbel).val_at hlt
      obtain ⟨p0, p1, p2, p3, p4⟩ := hP0.c5
      have HS := Lib.hid (And.intro hI hs); clear hI hs
      go_wp2_with fail
      refine (IH'.out k hlt A' c' _ (hp.out k hlt) HS.out.1 (HS.out.2.below (bAl (bRf wr) _))).mono ?_
      rintro e w1 ⟨A1, c1, rfl, hsf, hb1⟩
      have HB := Lib.hid (And.intro hown (And.intro (hsf.mono (bAl (bRf wr) _).size) (bTr (bAl (bRf wr) _) hb1)))
      have Q0 := Lib.hid ((hP0.alloc _).below hb1)
      have Q1 := Lib.hid ((hP1.alloc _).below hb1)
      have hz0 : w.heap.size < w1.heap.size := Q0.out.lt
      have hz1 : w.heap.size + 1 < w1.heap.size := Q1.out.lt
      have hwr : w.heap.size + 1 < wr.heap.size := hP1.lt
      have hbel1 := Lib.hid (bTr hbel (bTr (bAl (bRf wr) _) hb1))
      clear hb1 hsf hown hP0 hP1 p0 p1 p2 p3 p4 k0 k1 k2 k3 k4 hbel
      obtain ⟨p0, p1, p2, p3, p4⟩ := Q0.out.c5
      have htk : (v.l.take k).length = k := by rw [List.length_take]; omega
      have htk1 : (v.l.take (k + 1)).length = k + 1 := by rw [List.length_take]; omega
      go_wp2_with (at_builtin; (refine app_list rfl _ _ 38 rfl rfl rfl (run_app1_F 38 _ (w.heap.size + 1 + 1) 40 (.agg #[.int .i64 0, .int .i64 0, .int .i64 0, .string .empty, .slice none 0 0]) 64 Try.underlying38 infoVal rfl (by decide) _ (v.l.take k) v.l[k] _ wr _ _ HB.out.1 (bTr HB.out.2.2 (bAl (bRf w1) _)) (RF.below (RF.val HS.out.1 HB.out.2.1) (bAl (bRf w1) _)) (cells_at [_, _, _, _, _] (by simp)) (by rw [htk]; omega) (by rw [htk]; unfold maxLen; omega) (by omega)) ?_; rintro rv' w2 ⟨ho, hbl, _⟩; rw [← List.take_succ_eq_append_getElem hlt] at ho; obtain ⟨Av, cv, rfl⟩ := ho.form; rw [htk1] at ho ⊢; have HO := Lib.hid (And.intro ho hbl); clear ho hbl))
      go_roundg (v.l.length - (k + 1))
      case measure => omega
      case rel =>
        refine ⟨k + 1, by omega, by go_num, rfl, ?_, ?_, HO.out.1, ?_⟩
        · exact ((Q0.out.alloc _).keepB HO.out.2 (by omega))
        · exact ((Q1.out.alloc _).keepB HO.out.2 (by omega))
        · exact (bTr hbel1.out (bAl (bRf w1) _)).trans (HO.out.2.mono (by omega))
    · have e : k = v.l.length := by omega
      subst e
      rw [List.take_length] at hown
      obtain ⟨Av, cv, rfl⟩ := hown.form
      have HO := Lib.hid (And.intro hown hbel); clear hown hbel
      obtain ⟨p0, p1, p2, p3, p4⟩ := hP0.c5
      obtain ⟨r0, r1, r2, r3, r4⟩ := hP1.c5
      have hz0 := hP0.lt
      have hz1 := hP1.lt
      have g4 := hP0.frozen 4
      have f0 := hP1.frozen 0
      have f1 := hP1.frozen 1
      have f2 := hP1.frozen 2
      have f3 := hP1.frozen 3
      have f4 := hP1.frozen 4
      clear hP0 hP1
      go_wp2_with fail
      refine bodyPost_ret (v := .agg #[.int .i64 v.kind, .int .i64 v.n, .int .i64 v.x, .string v.s, .slice Av v.l.length cv]) (by simp [results, Try.results106, go_sem, *]) rfl ?_
      refine ⟨Av, cv, rfl, ?_, ?_⟩
      · refine SF.mono (base := w.heap.size + 1 + 1) ?_ (by omega)
        refine SF.set (SF.set (SF.set (SF.set (SF.set (SF.set HO.out.1.sf.2 ?_ _) ?_ _) ?_ _) ?_ _) ?_ _) ?_ _
        all_goals (simp; try omega)
      · refine Below.setCell (Below.setCell (Below.setCell (Below.setCell (Below.setCell (Below.setCell HO.out.2 ?_ _) ?_ _) ?_ _) ?_ _) ?_ _) ?_ _
        all_goals (simp; try omega)
end Go.Proofs.Ytblcmajhdndmfaa
