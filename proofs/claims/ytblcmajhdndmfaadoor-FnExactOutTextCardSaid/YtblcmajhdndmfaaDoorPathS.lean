/- Contracts: paths as text, in the reference. -/
import Derived.Test.YtblcmajhdndmfaaDoorStepT
import Derived.Test.YtblcmajhdndmfaaDoorStep
import Derived.Deep.RegionHeld3
import Derived.Deep.CutRange
namespace Go.Proofs.YtblcmajhdndmfaaDoor
open Go.RowKit
set_option linter.unusedVariables false
set_option maxRecDepth 100000

theorem mul_step {k n : Nat} (h : k ≤ n) (hn : n ≤ 1048576) : 1 + k * 1048600 ≤ 1099536834561 := by
  have : k * 1048600 ≤ 1048576 * 1048600 := Nat.mul_le_mul_right _ (by omega)
  omega
theorem pathT_drop_none {x : GVal} {p : List GStep} {k : Nat} (hk : k < p.length) (h : stepG x p[k] = none) : pathT x (p.drop k) = .empty := by
  rw [List.drop_eq_getElem_cons hk]; exact pathT_none h
theorem pathT_drop_some {x y : GVal} {p : List GStep} {k : Nat} (hk : k < p.length) (h : stepG x p[k] = some y) : pathT x (p.drop k) = stepT x p[k] ++ pathT y (p.drop (k + 1)) := by
  rw [List.drop_eq_getElem_cons hk]; exact pathT_some h
theorem pathT_end {x : GVal} {p : List GStep} : pathT x (p.drop p.length) = .empty := by rw [List.drop_length]; rfl
theorem place_ne {x y : GVal} {s : GStep} (h : stepG x s = some y) : placeI x s ≠ -1 := fun e => by rw [stepG_none e] at h; cases h

set_option maxHeartbeats 2000000 in
theorem specPathText_any (v : GVal) (p : List GStep) (A Ap : Option Addr) (c cp : Nat) (w : World) (hn : bulkVal v ≤ 1048576) (hv : VInt v) (hpl : p.length ≤ 1048576) (hx : SA w v.l A c) (hp : SA w p Ap cp) :
    Calls Tryd.prog 45 #[.agg #[.int .i64 v.kind, .int .i64 v.n, .int .i64 v.x, .string v.s, .slice A v.l.length c], .slice Ap p.length cp] w (Ret w (.string (⟨#[36]⟩ ++ pathT v p))) := by
  obtain ⟨r, hr⟩ : ∃ r, r = ⟨#[36]⟩ ++ pathT v p := ⟨_, rfl⟩
  rw [← hr]
  have R := Lib.hid hr; clear hr
  have b0 := Lib.hid (bAl (bRf w) (.cells #[.int .i64 v.kind, .int .i64 v.n, .int .i64 v.x, .string v.s, .slice A v.l.length c] 41))
  have E := Lib.hid (And.intro (hx.below b0.out) hp); clear hx hp
  have HI := Lib.hid hv; clear hv
  go_enter Tryd.func45, Tryd.ntmps45
  go_wp2_with fail
  refine (copyS_ind v A c _ hn HI.out E.out.1).mono ?_
  rintro e w1 ⟨A1, c1, rfl, hsf, hb1⟩
  have hz1 : w.heap.size < w1.heap.size := by have := hb1.size; simp at this; omega
  have S1 := Lib.hid (And.intro hsf hb1)
  have b1 := Lib.hid (bTr b0.out hb1); clear hb1 hsf
  go_wp2_with fail
  go_loopg [5, 7] p.length (fun gk ss i wr => ∃ (k : Nat) (x : GVal) (Ax : Option Addr) (cx : Nat) (s : ByteArray), k ≤ p.length ∧ ss = .string s ∧ i = .int .i64 k ∧ gk = p.length - k ∧ Hid (s ++ pathT x (p.drop k) = r) ∧ Hid (s.size ≤ 1 + k * 1048600) ∧ Hid (bulkVal x ≤ 1048576) ∧ VInt x ∧
    Blk wr w1.heap.size 41 #[.int .i64 x.kind, .int .i64 x.n, .int .i64 x.x, .string x.s, .slice Ax x.l.length cx] ∧
    SS wr (fun b => b < wr.heap.size ∧ b ≠ w1.heap.size) x.l Ax cx ∧ Below w.heap.size w wr)
  case atStart =>
    refine ⟨0, v, A1, c1, _, by omega, rfl, rfl, by omega, R.out.symm, ?_, hn, HI.out, Blk.at rfl, ?_, bAl b1.out _⟩
    · show _ ≤ _; exact (by decide : (1 : Nat) ≤ 1)
    obtain ⟨F, h1, h2⟩ := S1.out.1
    have h3 := bAl (bRf w1) (.cells #[.int .i64 v.kind, .int .i64 v.n, .int .i64 v.x, .string v.s, .slice A1 v.l.length c1] 41)
    exact ⟨F, h1.keep fun b hb => h3.block b (h2.2 b hb).2.lt, fun b hb => by
      have h4 := (h2.2 b hb).1
      have h5 := (h2.2 b hb).2.lt
      simp at h4 ⊢
      omega⟩
  case round =>
    obtain ⟨k, x, Ax, cx, s, hk, rfl, rfl, rfl, hS, hss, hbx0, hvi, hP2, hsx, hbel⟩ := hrel
    by_cases hlt : k < p.length
    · obtain ⟨b, off, rfl, hb, hI, k0, k1⟩ := (E.out.2.below hbel).step_at hlt
      obtain ⟨p0, p1, p2, p3, p4⟩ := hP2.c5
      have hi1 : (k : Int) < p.length := by omega
      have hi2 : (0 : Int) ≤ k := by omega
      have hsz : s.size ≤ 1099536834561 := Nat.le_trans hss.out (mul_step hk hpl)
      go_wp2_with fail
      have HSA := Lib.hid (show SA wr x.l Ax cx from SS.keep hsx (fun _ _ => rfl) (fun b h => h.1))
      have hzg : w1.heap.size < wr.heap.size := hP2.lt
      have n1 : w1.heap.size ≠ wr.heap.size := by omega
      have n2 : b ≠ wr.heap.size := by omega
      have n1' : wr.heap.size ≠ w1.heap.size := by omega
      have n2' : wr.heap.size ≠ b := by omega
      go_cut [8, 9] from 12 to 38 (fun s8 s9 wx => ∃ gy A2 c2, s8 = .pointer (some ⟨gy, 0, none⟩) ∧ s9 = .bool (stepG x p[k]).isSome ∧ wr.heap.size ≤ gy ∧ VInt (zv (stepG x p[k])) ∧
        Blk wx gy 41 #[.int .i64 (zv (stepG x p[k])).kind, .int .i64 (zv (stepG x p[k])).n, .int .i64 (zv (stepG x p[k])).x, .string (zv (stepG x p[k])).s, .slice A2 (zv (stepG x p[k])).l.length c2] ∧
        SF wr.heap.size wx (zv (stepG x p[k])).l A2 c2 ∧ Below wr.heap.size wr wx)
      case first =>
        go_region_held3 (fun u => u.cell? ⟨w1.heap.size, 0, none⟩ = some (.int .i64 x.kind) ∧ u.cell? ⟨w1.heap.size, 1, none⟩ = some (.int .i64 x.n) ∧ u.cell? ⟨w1.heap.size, 2, none⟩ = some (.int .i64 x.x) ∧ u.cell? ⟨w1.heap.size, 3, none⟩ = some (.string x.s) ∧ u.cell? ⟨w1.heap.size, 4, none⟩ = some (.slice Ax x.l.length cx) ∧ u.cell? ⟨b, off + k * 2, none⟩ = some (.int .i64 p[k].at_) ∧ u.cell? ⟨b, off + k * 2 + 1, none⟩ = some (.bool p[k].name)) (go_keep)
          (first
            | (go_at_call 54; (first | refine (specStepVal_any x p[k] Ax cx _ hbx0.out hI hvi HSA.out.drew).mono ?_ | refine (specStepVal_any x p[k] Ax cx _ hbx0.out hI hvi (HSA.out.below (bAl (bRf wr) _)).drew).mono ?_); ( rintro e w2 ⟨A2, c2, rfl, hsf, hvz, hb2⟩; unfold valB; have HB := Lib.hid (show Below wr.heap.size wr w2 from (by first | exact bTr (bRf wr).drew hb2 | exact bTr (bAl (bRf wr) _).drew hb2)); obtain ⟨q0, q1, q2, q3, q4⟩ := (hP2.below HB.out).c5; have j0 := (HB.out.cell (p := ⟨b, _, none⟩) hb).trans k0; have j1 := (HB.out.cell (p := ⟨b, _, none⟩) hb).trans k1; obtain ⟨hc2, hf2⟩ := bCell hb2; have hz2 : wr.heap.size ≤ w2.heap.size := HB.out.size; have m1 : w1.heap.size ≠ w2.heap.size := (by omega); have m2 : b ≠ w2.heap.size := (by omega); have m1' : w2.heap.size ≠ w1.heap.size := (by omega); have m2' : w2.heap.size ≠ b := (by omega); have HS2 := Lib.hid (And.intro hsf (And.intro hvz hb2)); clear hsf hvz hb2)))
        · go_wp2_with fail
          go_meet
          exact ⟨w2.heap.size, A2, c2, rfl, rfl, hz2, HS2.out.2.1, Blk.at rfl, (HS2.out.1.below (bAl (bRf w2) _)).mono (by simp), bAl HB.out _⟩
        · go_wp2_with fail
          go_meet
          refine ⟨wr.heap.size, A2, c2, rfl, rfl, Nat.le_refl _, HS2.out.2.1, ?_, ?_, ?_⟩
          · exact ((((((Blk.new wr _ _).drew.below HS2.out.2.2).set_ 0 _).set_ 1 _).set_ 2 _).set_ 3 _).set_ 4 _
          · refine SF.mono (base := wr.heap.size + 1) ?_ (by omega)
            have hs := HS2.out.1.mono (base' := wr.heap.size + 1) (by simp)
            refine SF.set (SF.set (SF.set (SF.set (SF.set hs ?_ _) ?_ _) ?_ _) ?_ _) ?_ _
            all_goals (simp; try omega)
          · refine Below.setCell (Below.setCell (Below.setCell (Below.setCell (Below.setCell HB.out ?_ _) ?_ _) ?_ _) ?_ _) ?_ _
            all_goals (simp; try omega)
      case rest =>
        obtain ⟨gy, A2, c2, rfl, rfl, hgy, hvz, hY, hsf, hbx⟩ := hcut
        have HX := Lib.hid (And.intro hvz (And.intro hsf hbx))
        have hzx : wr.heap.size ≤ wc.heap.size := hbx.size
        have hgc : gy < wc.heap.size := hY.lt
        have R2 := hP2.below hbx
        have HSX := Lib.hid (HSA.out.below hbx)
        have j0 := (hbx.cell (p := ⟨b, _, none⟩) hb).trans k0
        have j1 := (hbx.cell (p := ⟨b, _, none⟩) hb).trans k1
        have hbc : b < wc.heap.size := by omega
        obtain ⟨q0, q1, q2, q3, q4⟩ := R2.c5
        clear hvz hsf hbx hP2 p0 p1 p2 p3 p4 k0 k1
        cases hst : stepG x p[k] with
        | none =>
          have hO : s = r := by rw [← hS.out, pathT_drop_none hlt hst, BA.append_empty]
          have O' := Lib.hid hO; clear hO
          have HY := Lib.hid hY; clear hY
          rw [Option.isSome_none]
          go_wp2_with fail
          go_ret
          exact ⟨by rw [O'.out]; rfl, bTr hbel HX.out.2.2⟩
        | some y =>
          rw [hst] at HX hY
          simp only [zv, Option.getD_some] at HX hY
          have hpn := place_ne hst
          obtain ⟨t, ht⟩ : ∃ t, t = stepT x p[k] := ⟨_, rfl⟩
          have hts : t.size ≤ 1048599 := by have := stepT_size (v := x) hI; have := hbx0.out; rw [ht]; omega
          have z1 : ¬ (9223372036854775807 < s.size + t.size) := by omega
          have hS2 : (s ++ t) ++ pathT y (p.drop (k + 1)) = r := by rw [← hS.out, pathT_drop_some hlt hst, ByteArray.append_assoc, ht]
          have HS2 := Lib.hid (And.intro hS2 (And.intro ht (bulk_step hst))); clear hS2 ht
          have HY := Lib.hid hY; clear hY
          have HR2 := Lib.hid R2; clear R2
          rw [Option.isSome_some]
          go_wp2_with fail
          go_region_held3 (fun u => u.cell? ⟨w1.heap.size, 0, none⟩ = some (.int .i64 x.kind) ∧ u.cell? ⟨w1.heap.size, 1, none⟩ = some (.int .i64 x.n) ∧ u.cell? ⟨w1.heap.size, 2, none⟩ = some (.int .i64 x.x) ∧ u.cell? ⟨w1.heap.size, 3, none⟩ = some (.string x.s) ∧ u.cell? ⟨w1.heap.size, 4, none⟩ = some (.slice Ax x.l.length cx) ∧ u.cell? ⟨b, off + k * 2, none⟩ = some (.int .i64 p[k].at_) ∧ u.cell? ⟨b, off + k * 2 + 1, none⟩ = some (.bool p[k].name)) (go_keep)
            (first
              | (go_at_call 55; (refine (l8Text_any x p[k] Ax cx _ hbx0.out hI HSX.out.drew hpn).mono ?_; rintro e w3 ⟨rfl, hb3⟩; rw [← HS2.out.2.1]; have HB3 := Lib.hid (show Below wc.heap.size wc w3 from bTr (bRf wc).drew hb3); obtain ⟨u0, u1, u2, u3, u4⟩ := (HR2.out.below HB3.out).c5; have i0 := (HB3.out.cell (p := ⟨b, _, none⟩) hbc).trans j0; have i1 := (HB3.out.cell (p := ⟨b, _, none⟩) hbc).trans j1; clear hb3)))
          have R3 := HR2.out.below HB3.out
          obtain ⟨y0, y1, y2, y3, y4⟩ := (HY.out.below HB3.out).c5
          have hz3 : w1.heap.size < w3.heap.size := R3.lt
          have f0 := R3.frozen 0
          have f1 := R3.frozen 1
          have f2 := R3.frozen 2
          have f3 := R3.frozen 3
          have f4 := R3.frozen 4
          have ngy : w1.heap.size ≠ gy := by omega
          have ngy' : gy ≠ w1.heap.size := by omega
          go_wp2_with fail
          go_roundg (p.length - (k + 1))
          case measure => omega
          case rel =>
            refine ⟨k + 1, y, A2, c2, _, by omega, rfl, by go_num, rfl, HS2.out.1, ?_, Nat.le_trans HS2.out.2.2 hbx0.out, HX.out.1, ?_, ?_, ?_⟩
            · have h1 := hss.out
              show (s ++ t).size ≤ _
              rw [ByteArray.size_append]; omega
            · exact ((((R3.set_ 0 _).set_ 1 _).set_ 2 _).set_ 3 _).set_ 4 _
            · have hs0 : SF wr.heap.size w3 y.l A2 c2 := HX.out.2.1.below HB3.out
              have hs : SF wr.heap.size _ y.l A2 c2 := SF.set (p := ⟨w1.heap.size, 4, none⟩) (SF.set (p := ⟨w1.heap.size, 3, none⟩) (SF.set (p := ⟨w1.heap.size, 2, none⟩) (SF.set (p := ⟨w1.heap.size, 1, none⟩) (SF.set (p := ⟨w1.heap.size, 0, none⟩) hs0 hzg (.int .i64 y.kind)) hzg (.int .i64 y.n)) hzg (.int .i64 y.x)) hzg (.string y.s)) hzg (.slice A2 y.l.length c2)
              obtain ⟨F, h1, h2⟩ := hs
              exact ⟨F, h1, fun b hb => by
                have h4 := (h2.2 b hb).1
                have h5 := (h2.2 b hb).2.lt
                exact ⟨h5, by omega⟩⟩
            · refine Below.setCell (Below.setCell (Below.setCell (Below.setCell (Below.setCell (bTr (bTr hbel HX.out.2.2) HB3.out) ?_ _) ?_ _) ?_ _) ?_ _) ?_ _
              all_goals (simp; try omega)
    · have e : k = p.length := by omega
      subst e
      have hO : s = r := by rw [← hS.out, pathT_end, BA.append_empty]
      have O' := Lib.hid hO; clear hO
      go_wp2_with fail
      go_ret
      exact ⟨by rw [O'.out]; rfl, hbel⟩
end Go.Proofs.YtblcmajhdndmfaaDoor
