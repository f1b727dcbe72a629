/- Contracts: values at steps and paths, in the program and in the reference. -/
import Derived.Test.YtblcmajhdndmfaaStep
import Derived.BigQuiet
import Derived.Deep.QuietTactic
import Derived.Deep.RegionHeld3
import Derived.StillTailTactics
import Derived.Deep.CutRange
namespace Go.Proofs.Ytblcmajhdndmfaa
open Go.RowKit
set_option linter.unusedVariables false
set_option maxRecDepth 100000

theorem specAtPath_any (v : GVal) (p : List GStep) (A Ap : Option Addr) (c cp : Nat) (w : World) (hn : bulkVal v ≤ 1048576) (hv : VInt v) (hx : SA w v.l A c) (hp : SA w p Ap cp) :
    Calls Try.prog 60 #[.agg #[.int .i64 v.kind, .int .i64 v.n, .int .i64 v.x, .string v.s, .slice A v.l.length c], .slice Ap p.length cp] w (RetVA w (atG v p)) := by
  obtain ⟨o, ho⟩ : ∃ o, o = atG v p := ⟨_, rfl⟩
  rw [← ho]
  have O := Lib.hid ho; clear ho
  have hlp : p.length ≤ 9223372036854775807 := by have := hp.len; unfold maxLen at this; omega
  have b0 := Lib.hid (bAl (bAl (bRf w) (.cells #[.int .i64 v.kind, .int .i64 v.n, .int .i64 v.x, .string v.s, .slice A v.l.length c] 40)) (.cells #[.int .i64 0, .int .i64 0, .int .i64 0, .string .empty, .slice none 0 0] 40))
  have P1 := Lib.hid (Blk.at (w := w.alloc (.cells #[.int .i64 v.kind, .int .i64 v.n, .int .i64 v.x, .string v.s, .slice A v.l.length c] 40)) (g := w.heap.size + 1) (t := 40) (cs := #[.int .i64 0, .int .i64 0, .int .i64 0, .string .empty, .slice none 0 0]) (by simp))
  have E := Lib.hid (And.intro (hx.below b0.out) hp); clear hx hp
  have HI := Lib.hid hv; clear hv
  go_enter Try.func60, Try.ntmps60
  go_wp2_with fail
  refine (copyS_ind v A c _ hn HI.out E.out.1).mono ?_
  rintro e w1 ⟨A1, c1, rfl, hsf, hb1⟩
  have P1' := Lib.hid (P1.out.below hb1)
  have hz1 : w.heap.size + 1 < w1.heap.size := P1'.out.lt
  have S1 := Lib.hid (And.intro hsf hb1)
  have b1 := Lib.hid (bTr b0.out hb1); clear hb1 hsf
  go_wp2_with fail
  go_loopg [7] p.length (fun gk i wr => ∃ (k : Nat) (x : GVal) (Ax : Option Addr) (cx : Nat), k ≤ p.length ∧ i = .int .i64 k ∧ gk = p.length - k ∧ Hid (atG v (p.take k) = some x) ∧ VInt x ∧
    Blk wr (w.heap.size + 1) 40 #[.int .i64 0, .int .i64 0, .int .i64 0, .string .empty, .slice none 0 0] ∧
    Blk wr w1.heap.size 40 #[.int .i64 x.kind, .int .i64 x.n, .int .i64 x.x, .string x.s, .slice Ax x.l.length cx] ∧
    SS wr (fun b => b < wr.heap.size ∧ w.heap.size + 1 < b ∧ b ≠ w1.heap.size) x.l Ax cx ∧ Below w.heap.size w wr)
  case atStart =>
    refine ⟨0, v, A1, c1, by omega, rfl, by omega, rfl, HI.out, P1'.out.alloc _, Blk.at rfl, ?_, bAl b1.out _⟩
    obtain ⟨F, h1, h2⟩ := S1.out.1
    have h3 := bAl (bRf w1) (.cells #[.int .i64 v.kind, .int .i64 v.n, .int .i64 v.x, .string v.s, .slice A1 v.l.length c1] 40)
    exact ⟨F, h1.keep fun b hb => h3.block b (h2.2 b hb).2.lt, fun b hb => by
      have h4 := (h2.2 b hb).1
      have h5 := (h2.2 b hb).2.lt
      simp at h4 ⊢
      omega⟩
  case round =>
    obtain ⟨k, x, Ax, cx, hk, rfl, rfl, hat, hvi, hP1, hP2, hsx, hbel⟩ := hrel
    by_cases hlt : k < p.length
    · obtain ⟨b, off, rfl, hb, hI, k0, k1⟩ := (E.out.2.below hbel).step_at hlt
      obtain ⟨p0, p1, p2, p3, p4⟩ := hP2.c5
      have hi1 : (k : Int) < p.length := by omega
      have hi2 : (0 : Int) ≤ k := by omega
      go_wp2_with fail
      have HSA := Lib.hid (show SA wr x.l Ax cx from SS.keep hsx (fun _ _ => rfl) (fun b h => h.1))
      have HB0 := Lib.hid (show bulkVal x ≤ 1048576 from Nat.le_trans (bulk_atG _ hat.out) hn)
      have hzg : w1.heap.size < wr.heap.size := hP2.lt
      have n1 : w1.heap.size ≠ wr.heap.size := by omega
      have n2 : b ≠ wr.heap.size := by omega
      have n1' : wr.heap.size ≠ w1.heap.size := by omega
      have n2' : wr.heap.size ≠ b := by omega
      go_cut [8, 9] from 12 to 30 (fun s8 s9 wx => ∃ gy A2 c2, s8 = .pointer (some ⟨gy, 0, none⟩) ∧ s9 = .bool (stepG x p[k]).isSome ∧ wr.heap.size ≤ gy ∧ VInt (zv (stepG x p[k])) ∧
        Blk wx gy 40 #[.int .i64 (zv (stepG x p[k])).kind, .int .i64 (zv (stepG x p[k])).n, .int .i64 (zv (stepG x p[k])).x, .string (zv (stepG x p[k])).s, .slice A2 (zv (stepG x p[k])).l.length c2] ∧
        SF wr.heap.size wx (zv (stepG x p[k])).l A2 c2 ∧ Below wr.heap.size wr wx)
      case first =>
        go_region_held3 (fun u => u.cell? ⟨w1.heap.size, 0, none⟩ = some (.int .i64 x.kind) ∧ u.cell? ⟨w1.heap.size, 1, none⟩ = some (.int .i64 x.n) ∧ u.cell? ⟨w1.heap.size, 2, none⟩ = some (.int .i64 x.x) ∧ u.cell? ⟨w1.heap.size, 3, none⟩ = some (.string x.s) ∧ u.cell? ⟨w1.heap.size, 4, none⟩ = some (.slice Ax x.l.length cx) ∧ u.cell? ⟨b, off + k * 2, none⟩ = some (.int .i64 p[k].at_) ∧ u.cell? ⟨b, off + k * 2 + 1, none⟩ = some (.bool p[k].name)) (go_keep)
          (first
            | (go_at_call 96; (first | refine (specStepVal_any x p[k] Ax cx _ HB0.out hI hvi HSA.out.drew).mono ?_ | refine (specStepVal_any x p[k] Ax cx _ HB0.out hI hvi (HSA.out.below (bAl (bRf wr) _)).drew).mono ?_); ( rintro e w2 ⟨A2, c2, rfl, hsf, hvz, hb2⟩; unfold valB; have HB := Lib.hid (show Below wr.heap.size wr w2 from (by first | exact bTr (bRf wr).drew hb2 | exact bTr (bAl (bRf wr) _).drew hb2)); obtain ⟨q0, q1, q2, q3, q4⟩ := (hP2.below HB.out).c5; have j0 := (HB.out.cell (p := ⟨b, _, none⟩) hb).trans k0; have j1 := (HB.out.cell (p := ⟨b, _, none⟩) hb).trans k1; obtain ⟨hc2, hf2⟩ := bCell hb2; have hz2 : wr.heap.size ≤ w2.heap.size := HB.out.size; have m1 : w1.heap.size ≠ w2.heap.size := (by omega); have m2 : b ≠ w2.heap.size := (by omega); have m1' : w2.heap.size ≠ w1.heap.size := (by omega); have m2' : w2.heap.size ≠ b := (by omega); have HS2 := Lib.hid (And.intro hsf (And.intro hvz hb2)); clear hsf hvz hb2)))
        · go_wp2_with fail
          go_meet
          exact ⟨w2.heap.size, A2, c2, rfl, rfl, hz2, HS2.out.2.1, Blk.at rfl, (HS2.out.1.below (bAl (bRf w2) _)).mono (by simp), bAl HB.out _⟩
        · go_wp2_with fail
          go_meet
          refine ⟨wr.heap.size, A2, c2, rfl, rfl, Nat.le_refl _, HS2.out.2.1, ?_, ?_, ?_⟩
          · exact ((((((Blk.new wr _ _).drew.below HS2.out.2.2).set_ 0 _).set_ 1 _).set_ 2 _).set_ 3 _).set_ 4 _
          · refine SF.mono (base := wr.heap.size + 1) ?_ (by omega)
            have hs := HS2.out.1.mono (base' := wr.heap.size + 1) (by simp)
            refine SF.set (SF.set (SF.set (SF.set (SF.set hs ?_ _) ?_ _) ?_ _) ?_ _) ?_ _
            all_goals (simp; try omega)
          · refine Below.setCell (Below.setCell (Below.setCell (Below.setCell (Below.setCell HB.out ?_ _) ?_ _) ?_ _) ?_ _) ?_ _
            all_goals (simp; try omega)
      case rest =>
        obtain ⟨gy, A2, c2, rfl, rfl, hgy, hvz, hY, hsf, hbx⟩ := hcut
        have HX := Lib.hid (And.intro hvz (And.intro hsf hbx))
        obtain ⟨y0, y1, y2, y3, y4⟩ := hY.c5
        have hzx : wr.heap.size ≤ wc.heap.size := hbx.size
        have R1 := hP1.below hbx
        have R2 := hP2.below hbx
        clear hvz hsf hbx hP1 hP2 p0 p1 p2 p3 p4 k0 k1
        cases hst : stepG x p[k] with
        | none =>
          rw [hst] at y0 y1 y2 y3 y4 HX
          obtain ⟨r0, r1, r2, r3, r4⟩ := R1.c5
          have hz1x : w.heap.size + 1 < wc.heap.size := R1.lt
          have f0 := R1.frozen 0
          have f1 := R1.frozen 1
          have f2 := R1.frozen 2
          have f3 := R1.frozen 3
          have f4 := R1.frozen 4
          have hO : o = none := by
            rw [O.out, ← List.take_append_drop (k + 1) p]
            exact atG_none_more _ _ _ (by rw [List.take_succ_eq_append_getElem hlt, atG_snoc, hat.out]; simpa using hst)
          have O' := Lib.hid hO; clear hO
          rw [Option.isSome_none]
          go_wp2_with fail
          refine bodyPost_ret (v := valB (zv none) none 0 false) (by simp [results, valB, zv, Try.results60, go_sem, *] <;> rfl) rfl ?_
          rw [O'.out]
          refine ⟨none, 0, rfl, (zvSF 0 _).sa, zvInt, ?_⟩
          refine Below.setCell (Below.setCell (Below.setCell (Below.setCell (Below.setCell (bTr hbel HX.out.2.2) ?_ _) ?_ _) ?_ _) ?_ _) ?_ _
          all_goals (simp; try omega)
        | some y =>
          rw [hst] at y0 y1 y2 y3 y4 HX
          simp only [zv, Option.getD_some] at y0 y1 y2 y3 y4 HX
          obtain ⟨r0, r1, r2, r3, r4⟩ := R2.c5
          have hz1x : w1.heap.size < wc.heap.size := R2.lt
          have f0 := R2.frozen 0
          have f1 := R2.frozen 1
          have f2 := R2.frozen 2
          have f3 := R2.frozen 3
          have f4 := R2.frozen 4
          have ngy : w1.heap.size ≠ gy := by omega
          have ngy' : gy ≠ w1.heap.size := by omega
          rw [Option.isSome_some]
          go_wp2_with fail
          go_roundg (p.length - (k + 1))
          case measure => omega
          case rel =>
            refine ⟨k + 1, y, A2, c2, by omega, by go_num, rfl, ?_, HX.out.1, ?_, ?_, ?_, ?_⟩
            · exact (show atG v (p.take (k + 1)) = some y by rw [List.take_succ_eq_append_getElem hlt, atG_snoc, hat.out]; simpa using hst)
            · exact ((((R1.far (by simp <;> omega) _).far (by simp <;> omega) _).far (by simp <;> omega) _).far (by simp <;> omega) _).far (by simp <;> omega) _
            · exact ((((R2.set_ 0 _).set_ 1 _).set_ 2 _).set_ 3 _).set_ 4 _
            · have hs : SF wr.heap.size _ y.l A2 c2 := SF.set (p := ⟨w1.heap.size, 4, none⟩) (SF.set (p := ⟨w1.heap.size, 3, none⟩) (SF.set (p := ⟨w1.heap.size, 2, none⟩) (SF.set (p := ⟨w1.heap.size, 1, none⟩) (SF.set (p := ⟨w1.heap.size, 0, none⟩) HX.out.2.1 hzg (.int .i64 y.kind)) hzg (.int .i64 y.n)) hzg (.int .i64 y.x)) hzg (.string y.s)) hzg (.slice A2 y.l.length c2)
              obtain ⟨F, h1, h2⟩ := hs
              exact ⟨F, h1, fun b hb => by
                have h4 := (h2.2 b hb).1
                have h5 := (h2.2 b hb).2.lt
                exact ⟨h5, by omega, by omega⟩⟩
            · refine Below.setCell (Below.setCell (Below.setCell (Below.setCell (Below.setCell (bTr hbel HX.out.2.2) ?_ _) ?_ _) ?_ _) ?_ _) ?_ _
              all_goals (simp; try omega)
    · have e : k = p.length := by omega
      subst e
      have hO : o = some x := by rw [O.out, ← hat.out, List.take_length]
      have O' := Lib.hid hO; clear hO
      obtain ⟨p0, p1, p2, p3, p4⟩ := hP2.c5
      obtain ⟨r0, r1, r2, r3, r4⟩ := hP1.c5
      have hz1x : w.heap.size + 1 < wr.heap.size := hP1.lt
      have f0 := hP1.frozen 0
      have f1 := hP1.frozen 1
      have f2 := hP1.frozen 2
      have f3 := hP1.frozen 3
      have f4 := hP1.frozen 4
      have n1 : w1.heap.size ≠ w.heap.size + 1 := by omega
      have n1' : w.heap.size + 1 ≠ w1.heap.size := by omega
      have HS := Lib.hid (And.intro hsx (And.intro hvi hbel)); clear hsx hvi hbel
      go_wp2_with fail
      refine bodyPost_ret (v := valB (zv (some x)) Ax cx true) (by simp [results, valB, zv, Try.results60, go_sem, *] <;> rfl) rfl ?_
      rw [O'.out]
      refine ⟨Ax, cx, rfl, ?_, HS.out.2.1, ?_⟩
      · obtain ⟨F, h1, h2⟩ := HS.out.1
        refine ⟨F, h1.keep fun b hb => ?_, fun b hb => by simpa [World.setCell] using (h2 b hb).1⟩
        have := (h2 b hb).2.1
        rw [Below.heap_setCell _ _ _ _ (by simp; omega), Below.heap_setCell _ _ _ _ (by simp; omega), Below.heap_setCell _ _ _ _ (by simp; omega), Below.heap_setCell _ _ _ _ (by simp; omega), Below.heap_setCell _ _ _ _ (by simp; omega)]
      · refine Below.setCell (Below.setCell (Below.setCell (Below.setCell (Below.setCell HS.out.2.2 ?_ _) ?_ _) ?_ _) ?_ _) ?_ _
        all_goals (simp; try omega)
end Go.Proofs.Ytblcmajhdndmfaa
