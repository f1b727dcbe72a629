/- Contracts: losses as text, in the program. -/
import Derived.Test.YtblcmajhdndmfaaDoorLossT
import Derived.Test.YtblcmajhdndmfaaDoorPathI
namespace Go.Proofs.YtblcmajhdndmfaaDoor
open Go.RowKit
set_option linter.unusedVariables false
set_option maxRecDepth 100000

theorem infoStringD : (Tryd.prog.info? 9).map (fun i => (i.zero, i.size, i.bytes)) = some (some (.string .empty), 1, 16) := by kernel_rfl
theorem strPlainD : ∀ (w : World) (F : List Nat) (a : ByteArray) (cs : List Value), Rep.rp w F a cs → F = [] := fun _ _ _ _ h => h.1
theorem strLitD {W : World} {s : ByteArray} (h : s.size ≤ maxLen) : SA (W.alloc (.cells #[.string s] 9)) [s] (some ⟨W.heap.size, 0, none⟩) 1 :=
  (OwnF.lit1 (show RF W.heap.size W s [.string s] from ⟨[], ⟨rfl, rfl, h⟩, Fresh.nil _ _⟩) 9 (Nat.le_refl _)).sf.2.sa
theorem wordT_max {v : GVal} {x : GLoss} (hn : bulkVal v ≤ 1048576) (hp : x.p.length ≤ 1048576) (hI : ∀ s ∈ x.p, I64 s.at_) : (wordT v x).size ≤ 1099536834561 := by
  have h1 := wordT_size hn hI
  have h2 : x.p.length * 1048599 ≤ 1048576 * 1048599 := Nat.mul_le_mul_right _ hp
  omega

set_option maxHeartbeats 2000000 in
theorem implLossText_any (v : GVal) (l : List GLoss) (A Al : Option Addr) (c cl : Nat) (w : World) (hn : bulkVal v ≤ 1048576) (hv : VInt v) (hln : bulkLossS l ≤ 1048576) (hx : SA w v.l A c) (hl : SA w l Al cl) (ht : Tab w) :
    Calls Tryd.prog 36 #[.agg #[.int .i64 v.kind, .int .i64 v.n, .int .i64 v.x, .string v.s, .slice A v.l.length c], .slice Al l.length cl] w (Ret w (.string (lossT v l))) := by
  have h0 : l.length ≤ 1048576 := Nat.le_trans (bulkLossS_len l) hln
  obtain ⟨r, hr⟩ : ∃ r, r = lossT v l := ⟨_, rfl⟩
  rw [← hr]
  have HIs := Lib.hid hl.stepsI
  have HT := Lib.hid ht; clear ht
  have b0 := Lib.hid (bAl (bRf w) (.cells #[.int .i64 v.kind, .int .i64 v.n, .int .i64 v.x, .string v.s, .slice A v.l.length c] 41))
  have P0 := Lib.hid (Blk.new w 41 #[.int .i64 v.kind, .int .i64 v.n, .int .i64 v.x, .string v.s, .slice A v.l.length c])
  have E := Lib.hid (And.intro (hx.below b0.out) (hl.below b0.out)); clear hx hl
  have R := Lib.hid hr; clear hr
  have HI := Lib.hid hv; clear hv
  obtain ⟨wb, hwb⟩ : ∃ wb, wb = w.alloc (.cells #[.int .i64 v.kind, .int .i64 v.n, .int .i64 v.x, .string v.s, .slice A v.l.length c] 41) := ⟨_, rfl⟩
  have hwbs : wb.heap.size = w.heap.size + 1 := by rw [hwb]; simp
  rw [← hwb] at b0 P0 E
  have HWB := Lib.hid hwb
  go_enter Tryd.func36, Tryd.ntmps36
  clear hwb
  go_wp2_with fail
  go_loopg [5, 11] l.length (fun gk u3 i wr => ∃ (k : Nat), k ≤ l.length ∧ i = .int .i64 k ∧ gk = l.length - k ∧ OwnF wr wb.heap.size 9 u3 ((l.take k).map (wordT v)) ∧ Below wb.heap.size wb wr)
  case atStart =>
    rw [HWB.out]
    exact ⟨0, by omega, rfl, by omega, OwnF.lit0' _ _ _ _ (by simp) (by simp), bAl (bRf _) _⟩
  case round =>
    obtain ⟨k, hk, rfl, rfl, hown, hbel⟩ := hrel
    have HBL := Lib.hid hbel
    have hwr : wb.heap.size ≤ wr.heap.size := hbel.size
    clear hbel
    by_cases hlt : k < l.length
    · obtain ⟨b, off, A1, c1, rfl, hb, hI, hs1, k0, k1⟩ := (E.out.2.below HBL.out).loss_at hlt
      obtain ⟨p0, p1, p2, p3, p4⟩ := (P0.out.below HBL.out).c5
      have hzw : w.heap.size < wr.heap.size := (P0.out.below HBL.out).lt
      have hi1 : (k : Int) < l.length := by omega
      have hi2 : (0 : Int) ≤ k := by omega
      have hpl : l[k].p.length ≤ 1048576 := by have := bulkLossS_p hlt; omega
      obtain ⟨m, hm⟩ : ∃ m, m = lossS l[k].kind := ⟨_, rfl⟩
      obtain ⟨q, hq⟩ : ∃ q, q = (⟨#[36]⟩ ++ pathT v l[k].p : ByteArray) := ⟨_, rfl⟩
      have sm : m.size ≤ 5 := by rw [hm]; exact lossS_size _
      have sq : q.size ≤ 1099535745025 := by rw [hq]; exact pathT_max hn hpl (HIs.out k hlt)
      have hword : m ++ ⟨#[32]⟩ ++ q = wordT v l[k] := by rw [hm, hq]; rfl
      have hwz : (m ++ ⟨#[32]⟩ ++ q).size ≤ maxLen := by rw [hword]; have := wordT_max hn hpl (HIs.out k hlt); unfold maxLen; omega
      have HSA := Lib.hid (And.intro (E.out.1.below HBL.out) (And.intro hs1 hI))
      have HM := Lib.hid (And.intro hm (And.intro hq (And.intro hword hwz))); clear hm hq hs1 hI hword hwz
      have y1 : ¬ (9223372036854775807 < m.size + 1) := by omega
      have y2 : ¬ (9223372036854775807 < m.size + 1 + q.size) := by omega
      have HTr := Lib.hid ((HT.out.below b0.out).below HBL.out)
      have LX := Lib.hid (Blk.new wr 72 #[.int .i64 l[k].kind, .slice A1 l[k].p.length c1])
      have hne : u5.ownBlock ≠ some wr.heap.size := fun e => by have := (hown.own_lt _ e).2; omega
      have HOW := Lib.hid hown; clear hown
      have hnb : b ≠ wr.heap.size := by omega
      have hnw : w.heap.size ≠ wr.heap.size := by omega
      have HLL := Lib.hid (show ((l.take k).map (wordT v)).length = k from by rw [List.length_map, List.length_take]; omega)
      go_wp2_with fail
      go_region_held3 (fun u => u.cell? ⟨wr.heap.size, 0, none⟩ = some (.int .i64 l[k].kind) ∧ u.cell? ⟨wr.heap.size, 1, none⟩ = some (.slice A1 l[k].p.length c1) ∧ u.cell? ⟨w.heap.size, 0, none⟩ = some (.int .i64 v.kind) ∧ u.cell? ⟨w.heap.size, 1, none⟩ = some (.int .i64 v.n) ∧ u.cell? ⟨w.heap.size, 2, none⟩ = some (.int .i64 v.x) ∧ u.cell? ⟨w.heap.size, 3, none⟩ = some (.string v.s) ∧ u.cell? ⟨w.heap.size, 4, none⟩ = some (.slice A v.l.length c)) (go_keep)
        (first
          | (go_at_call 48; (refine (implPathText_any v l[k].p A A1 c c1 _ hn HI.out hpl (HSA.out.1.below (by first | exact (bAl (bRf wr) _).drew | exact HB9.out)) (HSA.out.2.1.below (by first | exact (bAl (bRf wr) _).drew | exact HB9.out)) (HTr.out.below (by first | exact (bAl (bRf wr) _).drew | exact HB9.out))).mono ?_; rintro e w8 ⟨rfl, hb8⟩; rw [← HM.out.2.1]; have HB8 := Lib.hid (show Below wr.heap.size wr w8 from by first | exact bTr (bAl (bRf wr) _).drew hb8 | exact bTr HB9.out hb8); have LX8 := Lib.hid (show Blk w8 wr.heap.size 72 #[.int .i64 l[k].kind, .slice A1 l[k].p.length c1] from by first | exact LX.out.drew.below hb8 | exact LX9.out.below hb8); obtain ⟨j0, j1⟩ := LX8.out.c2; have u0 := (HB8.out.cell (p := ⟨w.heap.size, _, none⟩) hzw).trans p0; have u1 := (HB8.out.cell (p := ⟨w.heap.size, _, none⟩) hzw).trans p1; have u2 := (HB8.out.cell (p := ⟨w.heap.size, _, none⟩) hzw).trans p2; have u3' := (HB8.out.cell (p := ⟨w.heap.size, _, none⟩) hzw).trans p3; have u4 := (HB8.out.cell (p := ⟨w.heap.size, _, none⟩) hzw).trans p4; have hz8 : wr.heap.size < w8.heap.size := LX8.out.lt; have hn8 : wr.heap.size ≠ w8.heap.size := (by omega); have hm8 : w.heap.size ≠ w8.heap.size := (by omega); clear hb8))
          | (go_at_call 47; (refine (implLossName_any _ _).mono ?_; rintro e w9 ⟨rfl, hb9⟩; rw [← HM.out.1]; have HB9 := Lib.hid (show Below wr.heap.size wr w9 from by first | exact bTr (bAl (bRf wr) _).drew hb9 | exact bTr HB8.out hb9); have LX9 := Lib.hid (show Blk w9 wr.heap.size 72 #[.int .i64 l[k].kind, .slice A1 l[k].p.length c1] from by first | exact LX.out.drew.below hb9 | exact LX8.out.below hb9); obtain ⟨j0, j1⟩ := LX9.out.c2; have u0 := (HB9.out.cell (p := ⟨w.heap.size, _, none⟩) hzw).trans p0; have u1 := (HB9.out.cell (p := ⟨w.heap.size, _, none⟩) hzw).trans p1; have u2 := (HB9.out.cell (p := ⟨w.heap.size, _, none⟩) hzw).trans p2; have u3' := (HB9.out.cell (p := ⟨w.heap.size, _, none⟩) hzw).trans p3; have u4 := (HB9.out.cell (p := ⟨w.heap.size, _, none⟩) hzw).trans p4; have hz9 : wr.heap.size < w9.heap.size := LX9.out.lt; have hn9 : wr.heap.size ≠ w9.heap.size := (by omega); have hm9 : w.heap.size ≠ w9.heap.size := (by omega); clear hb9))
          | ((apply app_step (s := .tmp 15) (x := .tmp 25) (t := 63) (v := u5) (u := .slice (some ⟨_, 0, none⟩) 1 1); (try case hgd => exact rfl); (try case ho => exact rfl); (try case hs => exact rfl); (try case hx => exact rfl); (case hrun => exact run_app_P (P := Tryd.prog) strPlainD 63 63 wb.heap.size 9 (.string .empty) 16 Tryd.underlying63 infoStringD rfl (by decide) u5 _ [m ++ ⟨#[32]⟩ ++ q] _ _ (by first | exact (HOW.out.below HB8.out).alloc _ | exact (HOW.out.below HB9.out).alloc _) (strLitD HM.out.2.2.2) (by rw [HLL.out]; simp <;> omega) (by rw [HLL.out]; unfold maxLen; simp <;> omega) (by simp <;> omega)); rintro v6 w6 ⟨ho6, hbl6, hloc6, hg6⟩; have HB6 := Lib.hid (show Below wb.heap.size wr w6 from by first | exact (HB8.out.mono hwr).trans (Below.trans ((Below.refl _ _).alloc (by omega) _) hbl6) | exact (HB9.out.mono hwr).trans (Below.trans ((Below.refl _ _).alloc (by omega) _) hbl6)); have LX6 := Lib.hid (show Blk w6 wr.heap.size 72 #[.int .i64 l[k].kind, .slice A1 l[k].p.length c1] from by first | exact (LX8.out.alloc _).grown hg6 hne | exact (LX9.out.alloc _).grown hg6 hne); obtain ⟨i0, i1⟩ := LX6.out.c2; have hwz : w.heap.size < wb.heap.size := (by omega); have t0 := (HB6.out.cell (p := ⟨w.heap.size, _, none⟩) hwz).trans p0; have t1 := (HB6.out.cell (p := ⟨w.heap.size, _, none⟩) hwz).trans p1; have t2 := (HB6.out.cell (p := ⟨w.heap.size, _, none⟩) hwz).trans p2; have t3 := (HB6.out.cell (p := ⟨w.heap.size, _, none⟩) hwz).trans p3; have t4 := (HB6.out.cell (p := ⟨w.heap.size, _, none⟩) hwz).trans p4; have HO6 := Lib.hid ho6; clear ho6 hbl6 hloc6 hg6)))
      all_goals
        go_wp2_with fail
        go_roundg (l.length - (k + 1))
        case measure => omega
        case rel =>
          refine ⟨k + 1, by omega, by go_num, rfl, ?_, HBL.out.trans HB6.out⟩
          rw [List.take_succ_eq_append_getElem hlt, List.map_append, List.map_cons, List.map_nil, ← HM.out.2.2.1]
          exact HO6.out
    · have e : k = l.length := by omega
      subst e
      rw [List.take_length] at hown
      obtain ⟨Au, cu, rfl⟩ := hown.form
      have hbw := bTr b0.out HBL.out
      have hlm : (l.map (wordT v)).length = l.length := by simp
      rw [hlm] at hown ⊢
      by_cases h1 : l.length = 0
      · have hz : ((l.length : Int) == 0) = true := by simp [h1]
        have hR : r = ⟨#[45]⟩ := by rw [R.out]; unfold lossT; rw [if_pos h1]
        have HR := Lib.hid hR; clear hR h1 hown
        go_wp2_with fail
        go_ret
        exact ⟨by rw [HR.out]; rfl, hbw⟩
      · have hz : ((l.length : Int) == 0) = false := by rw [beq_eq_false_iff_ne]; omega
        have hR : r = strOf (Lib.join ((l.map (wordT v)).map (·.data.toList)) [59, 32]) := by
          rw [R.out]; unfold lossT lossTo; rw [if_neg h1, List.take_length, List.map_map]; rfl
        have hs := hown.sf.2.sa
        have hjl : (Lib.join ((l.map (wordT v)).map (·.data.toList)) [59, 32]).length ≤ 140737488355328 := by
          have h2 := lossTo_max hn hln HIs.out (Nat.le_refl l.length)
          unfold lossTo at h2
          rw [strOf_size, List.take_length] at h2
          rw [List.map_map]
          exact Nat.le_trans h2 (by omega)
        have hne : (l.map (wordT v)) ≠ [] := fun e => h1 (by simpa using congrArg List.length e)
        obtain ⟨b, off, rfl, hb, _, _⟩ := hs.str_at (i := 0) (by rw [hlm]; omega)
        have hcells : ∀ (j : Nat) x, (l.map (wordT v))[j]? = some x → wr.cell? ⟨b, off + j, none⟩ = some (.string x) := fun j x hj => by
          obtain ⟨hjl, hje⟩ := List.getElem?_eq_some_iff.1 hj
          obtain ⟨b', off', hA, _, _, hc⟩ := hs.str_at hjl
          injection hA with hA; injection hA with e1 e2
          subst e1 e2
          rw [hc, hje]
        have hcap : l.length ≤ cu := by have := hs.choose_spec.1.1; rw [hlm] at this; exact this
        have hj := Tryd.strings_Join b off cu (l.map (wordT v)) ⟨#[59, 32]⟩ wr hcells hb (by rw [hlm]; omega) (by rw [hlm]; exact hcap) hjl
        rw [hlm] at hj
        have HJ := Lib.hid (hj.mono (R' := Ret wr (.string r)) fun e w' h => ⟨h.1.trans (by rw [hR]; rfl), h.2⟩)
        clear hR hown hs hcells hj hjl hne
        go_wp2_with fail
        refine HJ.out.mono ?_
        rintro e w5 ⟨rfl, hb5⟩
        have HBW := Lib.hid (bTr hbw hb5); clear hb5
        go_wp2_with fail
        go_ret
        exact ⟨rfl, HBW.out⟩
end Go.Proofs.YtblcmajhdndmfaaDoor
