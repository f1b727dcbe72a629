/- Contracts: results as text, in the program and in the reference. -/
import Derived.Test.YtblcmajhdndmfaaDoorLossI
import Derived.Test.YtblcmajhdndmfaaDoorSummary
namespace Go.Proofs.YtblcmajhdndmfaaDoor
open Go.RowKit
set_option linter.unusedVariables false
set_option maxRecDepth 100000

def outT (v : GVal) (o : GOut) : ByteArray := if o.code = 0 then codeS o.code ++ ⟨#[32]⟩ ++ numS o.b.length ++ ⟨#[32]⟩ ++ lossT v o.l else codeS o.code
theorem lossT_max {v : GVal} {l : List GLoss} (hn : bulkVal v ≤ 1048576) (hl : bulkLossS l ≤ 1048576) (hI : StepsI l) : (lossT v l).size ≤ 1099536793600 := by
  unfold lossT
  split
  · exact Nat.le_trans (show (ByteArray.mk #[45]).size ≤ 1 from Nat.le_refl 1) (by omega)
  · exact lossTo_max hn hl hI (Nat.le_refl _)

set_option maxHeartbeats 4000000 in
theorem specOutText_any (v : GVal) (o : GOut) (A A1 A2 : Option Addr) (c c1 c2 : Nat) (w : World) (hn : bulkVal v ≤ 1048576) (hv : VInt v) (hln : bulkLossS o.l ≤ 1048576) (hbn : o.b.length ≤ 1048576) (hx : SA w v.l A c) (hl : SA w o.l A2 c2) :
    Calls Tryd.prog 12 #[.agg #[.int .i64 v.kind, .int .i64 v.n, .int .i64 v.x, .string v.s, .slice A v.l.length c], .agg #[.slice A1 o.b.length c1, .slice A2 o.l.length c2, .int .i64 o.code]] w (Ret w (.string (outT v o))) := by
  have hIs := hl.stepsI
  obtain ⟨r, hr⟩ : ∃ r, r = outT v o := ⟨_, rfl⟩
  rw [← hr]
  obtain ⟨n1, hn1⟩ : ∃ n, n = codeS o.code := ⟨_, rfl⟩
  obtain ⟨n2, hn2⟩ : ∃ n, n = numS o.b.length := ⟨_, rfl⟩
  obtain ⟨n3, hn3⟩ : ∃ n, n = lossT v o.l := ⟨_, rfl⟩
  have s1 : n1.size ≤ 5 := by rw [hn1]; exact codeS_size _
  have s2 : n2.size ≤ 20 := by rw [hn2]; exact numS_size (natI (by omega))
  have s3 : n3.size ≤ 1099536793600 := by rw [hn3]; exact lossT_max hn hln hIs
  have z1 : ¬ (9223372036854775807 < n1.size + 1) := by omega
  have z2 : ¬ (9223372036854775807 < n1.size + 1 + n2.size) := by omega
  have z3 : ¬ (9223372036854775807 < n1.size + 1 + n2.size + 1) := by omega
  have z4 : ¬ (9223372036854775807 < n1.size + 1 + n2.size + 1 + n3.size) := by omega
  have hrr : r = if o.code = 0 then n1 ++ ⟨#[32]⟩ ++ n2 ++ ⟨#[32]⟩ ++ n3 else n1 := by rw [hr, hn1, hn2, hn3]; rfl
  have HM := Lib.hid (And.intro hn1 (And.intro hn2 hn3)); clear hn1 hn2 hn3 hr hIs
  have B0' := Lib.hid (bAl (bAl (bRf w) (.cells #[.int .i64 v.kind, .int .i64 v.n, .int .i64 v.x, .string v.s, .slice A v.l.length c] 41)) (.cells #[.slice A1 o.b.length c1, .slice A2 o.l.length c2, .int .i64 o.code] 45))
  have P0' := Lib.hid ((Blk.new w 41 #[.int .i64 v.kind, .int .i64 v.n, .int .i64 v.x, .string v.s, .slice A v.l.length c]).alloc (.cells #[.slice A1 o.b.length c1, .slice A2 o.l.length c2, .int .i64 o.code] 45))
  have P1' := Lib.hid (Blk.at (w := (w.alloc (.cells #[.int .i64 v.kind, .int .i64 v.n, .int .i64 v.x, .string v.s, .slice A v.l.length c] 41))) (g := w.heap.size + 1) (t := 45) (cs := #[.slice A1 o.b.length c1, .slice A2 o.l.length c2, .int .i64 o.code]) (by simp))
  have E' := Lib.hid (And.intro (hx.below B0'.out) (hl.below B0'.out)); clear hx hl
  have HI := Lib.hid hv; clear hv
  by_cases hc : o.code = 0
  · have hcb : (o.code != 0) = false := by simp [hc]
    have hR : r = n1 ++ ⟨#[32]⟩ ++ n2 ++ ⟨#[32]⟩ ++ n3 := by rw [hrr, if_pos hc]
    have HR := Lib.hid hR; clear hR hrr hc
    go_enter Tryd.func12, Tryd.ntmps12
    go_wp2_with fail
    refine (specCodeName_any _ _).mono ?_
    rintro e w0 ⟨rfl, hb1⟩
    rw [← HM.out.1]
    have B0 := Lib.hid (bTr B0'.out hb1)
    have P0 := Lib.hid (P0'.out.below hb1)
    have P1 := Lib.hid (P1'.out.below hb1)
    have E := Lib.hid (And.intro (E'.out.1.below hb1) (E'.out.2.below hb1))
    clear hb1
    have DR := Lib.hid (bRf w0).drew
    obtain ⟨p0, p1, p2, p3, p4⟩ := P0.out.c5
    obtain ⟨q0, q1, q2⟩ := P1.out.c3
    go_wp2_with fail
    go_region_held3 (fun u => u.cell? ⟨w.heap.size, 0, none⟩ = some (.int .i64 v.kind) ∧ u.cell? ⟨w.heap.size, 1, none⟩ = some (.int .i64 v.n) ∧ u.cell? ⟨w.heap.size, 2, none⟩ = some (.int .i64 v.x) ∧ u.cell? ⟨w.heap.size, 3, none⟩ = some (.string v.s) ∧ u.cell? ⟨w.heap.size, 4, none⟩ = some (.slice A v.l.length c) ∧ u.cell? ⟨w.heap.size + 1, 0, none⟩ = some (.slice A1 o.b.length c1) ∧ u.cell? ⟨w.heap.size + 1, 1, none⟩ = some (.slice A2 o.l.length c2) ∧ u.cell? ⟨w.heap.size + 1, 2, none⟩ = some (.int .i64 o.code)) (go_keep)
      (first
        | (go_at_call 18; (refine (specNumText_any _ _ (natI (by omega))).mono ?_; rintro e w8 ⟨rfl, hb8⟩; rw [← HM.out.2.1]; have HB8 := Lib.hid (show Below w0.heap.size w0 w8 from by first | exact bTr DR.out hb8 | exact bTr HB9.out hb8 | exact bTr HB7.out hb8); obtain ⟨j0, j1, j2, j3, j4⟩ := (P0.out.below HB8.out).c5; obtain ⟨i0, i1, i2⟩ := (P1.out.below HB8.out).c3; clear hb8))
        | (go_at_call 32; (refine (specLossText_any v o.l A A2 c c2 _ hn HI.out hln (E.out.1.below (by first | exact DR.out | exact HB8.out | exact HB7.out)) (E.out.2.below (by first | exact DR.out | exact HB8.out | exact HB7.out))).mono ?_; rintro e w9 ⟨rfl, hb9⟩; rw [← HM.out.2.2]; have HB9 := Lib.hid (show Below w0.heap.size w0 w9 from by first | exact bTr DR.out hb9 | exact bTr HB8.out hb9 | exact bTr HB7.out hb9); obtain ⟨j0, j1, j2, j3, j4⟩ := (P0.out.below HB9.out).c5; obtain ⟨i0, i1, i2⟩ := (P1.out.below HB9.out).c3; clear hb9)))
    all_goals
      go_wp2_with fail
      go_ret
      exact ⟨by rw [HR.out]; rfl, by first | exact bTr B0.out HB9.out | exact bTr B0.out HB8.out⟩
  · have hcb : (o.code != 0) = true := by simp [hc]
    have hR : r = n1 := by rw [hrr, if_neg hc]
    have HR := Lib.hid hR; clear hR hrr hc
    go_enter Tryd.func12, Tryd.ntmps12
    go_wp2_with fail
    refine (specCodeName_any _ _).mono ?_
    rintro e w0 ⟨rfl, hb1⟩
    rw [← HM.out.1]
    have B0 := Lib.hid (bTr B0'.out hb1)
    have P1 := Lib.hid (P1'.out.below hb1)
    clear hb1
    obtain ⟨q0, q1, q2⟩ := P1.out.c3
    go_wp2_with fail
    go_ret
    exact ⟨by rw [HR.out]; rfl, B0.out⟩

set_option maxHeartbeats 4000000 in
theorem implOutText_any (v : GVal) (o : GOut) (A A1 A2 : Option Addr) (c c1 c2 : Nat) (w : World) (hn : bulkVal v ≤ 1048576) (hv : VInt v) (hln : bulkLossS o.l ≤ 1048576) (hbn : o.b.length ≤ 1048576) (hx : SA w v.l A c) (hl : SA w o.l A2 c2) (ht : Tab w) :
    Calls Tryd.prog 15 #[.agg #[.int .i64 v.kind, .int .i64 v.n, .int .i64 v.x, .string v.s, .slice A v.l.length c], .agg #[.slice A1 o.b.length c1, .slice A2 o.l.length c2, .int .i64 o.code]] w (Ret w (.string (outT v o))) := by
  have hIs := hl.stepsI
  obtain ⟨r, hr⟩ : ∃ r, r = outT v o := ⟨_, rfl⟩
  rw [← hr]
  obtain ⟨n1, hn1⟩ : ∃ n, n = codeS o.code := ⟨_, rfl⟩
  obtain ⟨n2, hn2⟩ : ∃ n, n = numS o.b.length := ⟨_, rfl⟩
  obtain ⟨n3, hn3⟩ : ∃ n, n = lossT v o.l := ⟨_, rfl⟩
  have s1 : n1.size ≤ 5 := by rw [hn1]; exact codeS_size _
  have s2 : n2.size ≤ 20 := by rw [hn2]; exact numS_size (natI (by omega))
  have s3 : n3.size ≤ 1099536793600 := by rw [hn3]; exact lossT_max hn hln hIs
  have z1 : ¬ (9223372036854775807 < n1.size + 1) := by omega
  have z2 : ¬ (9223372036854775807 < n1.size + 1 + n2.size) := by omega
  have z3 : ¬ (9223372036854775807 < n1.size + 1 + n2.size + 1) := by omega
  have z4 : ¬ (9223372036854775807 < n1.size + 1 + n2.size + 1 + n3.size) := by omega
  have hrr : r = if o.code = 0 then n1 ++ ⟨#[32]⟩ ++ n2 ++ ⟨#[32]⟩ ++ n3 else n1 := by rw [hr, hn1, hn2, hn3]; rfl
  have HM := Lib.hid (And.intro hn1 (And.intro hn2 hn3)); clear hn1 hn2 hn3 hr hIs
  have B0' := Lib.hid (bAl (bAl (bRf w) (.cells #[.int .i64 v.kind, .int .i64 v.n, .int .i64 v.x, .string v.s, .slice A v.l.length c] 41)) (.cells #[.slice A1 o.b.length c1, .slice A2 o.l.length c2, .int .i64 o.code] 45))
  have P0' := Lib.hid ((Blk.new w 41 #[.int .i64 v.kind, .int .i64 v.n, .int .i64 v.x, .string v.s, .slice A v.l.length c]).alloc (.cells #[.slice A1 o.b.length c1, .slice A2 o.l.length c2, .int .i64 o.code] 45))
  have P1' := Lib.hid (Blk.at (w := (w.alloc (.cells #[.int .i64 v.kind, .int .i64 v.n, .int .i64 v.x, .string v.s, .slice A v.l.length c] 41))) (g := w.heap.size + 1) (t := 45) (cs := #[.slice A1 o.b.length c1, .slice A2 o.l.length c2, .int .i64 o.code]) (by simp))
  have E' := Lib.hid (And.intro (hx.below B0'.out) (hl.below B0'.out)); clear hx hl
  have HI := Lib.hid hv; clear hv
  have HT := Lib.hid ht; clear ht
  by_cases hc : o.code = 0
  · have hcb : (o.code != 0) = false := by simp [hc]
    have hR : r = n1 ++ ⟨#[32]⟩ ++ n2 ++ ⟨#[32]⟩ ++ n3 := by rw [hrr, if_pos hc]
    have HR := Lib.hid hR; clear hR hrr hc
    go_enter Tryd.func15, Tryd.ntmps15
    go_wp2_with fail
    obtain ⟨w0, hw0⟩ : ∃ w0, w0 = ((w.alloc (.cells #[.int .i64 v.kind, .int .i64 v.n, .int .i64 v.x, .string v.s, .slice A v.l.length c] 41)).alloc (.cells #[.slice A1 o.b.length c1, .slice A2 o.l.length c2, .int .i64 o.code] 45)) := ⟨_, rfl⟩
    rw [← hw0] at B0' P0' P1' E' ⊢
    clear hw0
    have B0 := B0'
    have P0 := P0'
    have P1 := P1'
    have E := E'
    clear B0' P0' P1' E'
    have DR := Lib.hid (bRf w0).drew
    obtain ⟨p0, p1, p2, p3, p4⟩ := P0.out.c5
    obtain ⟨q0, q1, q2⟩ := P1.out.c3
    go_region_held3 (fun u => u.cell? ⟨w.heap.size, 0, none⟩ = some (.int .i64 v.kind) ∧ u.cell? ⟨w.heap.size, 1, none⟩ = some (.int .i64 v.n) ∧ u.cell? ⟨w.heap.size, 2, none⟩ = some (.int .i64 v.x) ∧ u.cell? ⟨w.heap.size, 3, none⟩ = some (.string v.s) ∧ u.cell? ⟨w.heap.size, 4, none⟩ = some (.slice A v.l.length c) ∧ u.cell? ⟨w.heap.size + 1, 0, none⟩ = some (.slice A1 o.b.length c1) ∧ u.cell? ⟨w.heap.size + 1, 1, none⟩ = some (.slice A2 o.l.length c2) ∧ u.cell? ⟨w.heap.size + 1, 2, none⟩ = some (.int .i64 o.code)) (go_keep)
      (first
        | (go_at_call 23; (refine (implNumText_any _ _ (natI (by omega)) (HT.out.below (by first | exact bTr B0.out DR.out | exact bTr B0.out HB8.out | exact bTr B0.out HB9.out | exact bTr B0.out HB7.out))).mono ?_; rintro e w8 ⟨rfl, hb8⟩; rw [← HM.out.2.1]; have HB8 := Lib.hid (show Below w0.heap.size w0 w8 from by first | exact bTr DR.out hb8 | exact bTr HB9.out hb8 | exact bTr HB7.out hb8); obtain ⟨j0, j1, j2, j3, j4⟩ := (P0.out.below HB8.out).c5; obtain ⟨i0, i1, i2⟩ := (P1.out.below HB8.out).c3; clear hb8))
        | (go_at_call 36; (refine (implLossText_any v o.l A A2 c c2 _ hn HI.out hln (E.out.1.below (by first | exact DR.out | exact HB8.out | exact HB7.out)) (E.out.2.below (by first | exact DR.out | exact HB8.out | exact HB7.out)) (HT.out.below (by first | exact bTr B0.out DR.out | exact bTr B0.out HB8.out | exact bTr B0.out HB9.out | exact bTr B0.out HB7.out))).mono ?_; rintro e w9 ⟨rfl, hb9⟩; rw [← HM.out.2.2]; have HB9 := Lib.hid (show Below w0.heap.size w0 w9 from by first | exact bTr DR.out hb9 | exact bTr HB8.out hb9 | exact bTr HB7.out hb9); obtain ⟨j0, j1, j2, j3, j4⟩ := (P0.out.below HB9.out).c5; obtain ⟨i0, i1, i2⟩ := (P1.out.below HB9.out).c3; clear hb9))
        | (go_at_call 28; (refine (implCodeName_any _ _).mono ?_; rintro e w7 ⟨rfl, hb7⟩; rw [← HM.out.1]; have HB7 := Lib.hid (show Below w0.heap.size w0 w7 from by first | exact bTr DR.out hb7 | exact bTr HB8.out hb7 | exact bTr HB9.out hb7); obtain ⟨j0, j1, j2, j3, j4⟩ := (P0.out.below HB7.out).c5; obtain ⟨i0, i1, i2⟩ := (P1.out.below HB7.out).c3; clear hb7)))
    all_goals
      go_wp2_with fail
      go_ret
      exact ⟨by rw [HR.out]; rfl, by first | exact bTr B0.out HB9.out | exact bTr B0.out HB8.out | exact bTr B0.out HB7.out⟩
  · have hcb : (o.code != 0) = true := by simp [hc]
    have hR : r = n1 := by rw [hrr, if_neg hc]
    have HR := Lib.hid hR; clear hR hrr hc
    go_enter Tryd.func15, Tryd.ntmps15
    go_wp2_with fail
    refine (implCodeName_any _ _).mono ?_
    rintro e w0 ⟨rfl, hb1⟩
    rw [← HM.out.1]
    have B0 := Lib.hid (bTr B0'.out hb1)
    clear hb1
    go_wp2_with fail
    go_ret
    exact ⟨by rw [HR.out]; rfl, B0.out⟩
end Go.Proofs.YtblcmajhdndmfaaDoor
