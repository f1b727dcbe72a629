/- Contracts: the texts of a tree, in the reference. -/
import Derived.Test.YtblcmajhdndmfaaFind
import Derived.Test.YtblcmajhdndmfaaPre
namespace Go.Proofs.Ytblcmajhdndmfaa
open Go.RowKit
set_option linter.unusedVariables false
set_option maxRecDepth 100000

/-- The texts at the paths of the values of the kind of texts. -/
def textsG (v : GVal) : List ByteArray := (findG v 7).map fun p => (zv (atG v p)).s
theorem RF.str {base : Nat} {w : World} (s : ByteArray) (h : s.size ≤ maxLen) : RF base w s [.string s] := ⟨[], ⟨rfl, rfl, h⟩, Fresh.nil _ _⟩
theorem infoString : (Try.prog.info? 9).map (fun i => (i.zero, i.size, i.bytes)) = some (some (.string .empty), 1, 16) := by kernel_rfl
theorem strPlain : ∀ (w : World) (F : List Nat) (a : ByteArray) (cs : List Value), Rep.rp w F a cs → F = [] := fun _ _ _ _ h => h.1

set_option maxHeartbeats 2000000 in
theorem specTextsIn_any (v : GVal) (A : Option Addr) (c : Nat) (w : World) (hn : bulkVal v ≤ 1048576) (hv : VInt v) (hx : SA w v.l A c) :
    Calls Try.prog 21 #[.agg #[.int .i64 v.kind, .int .i64 v.n, .int .i64 v.x, .string v.s, .slice A v.l.length c]] w (RetSA w (textsG v)) := by
  obtain ⟨r, hr⟩ : ∃ r, r = textsG v := ⟨_, rfl⟩
  rw [← hr]
  unfold textsG at hr
  have hall : (findG v 7).length ≤ 1048577 := by
    have h1 := pathsG_len v []
    have h2 : (findG v 7).length ≤ (pathsG [] v).length := List.length_filter_le _ _
    omega
  have hin : ∀ p, p ∈ findG v 7 → ∃ x, atG v p = some x := fun p hp => allPaths_at (List.mem_filter.1 hp).1
  obtain ⟨all, hal⟩ : ∃ all, all = findG v 7 := ⟨_, rfl⟩
  rw [← hal] at hr hall hin
  have R := Lib.hid (And.intro hr (And.intro hal hin)); clear hr hin
  have HI := Lib.hid hv; clear hv
  have b0 := Lib.hid (bAl (bAl (bRf w) (.cells #[.int .i64 v.kind, .int .i64 v.n, .int .i64 v.x, .string v.s, .slice A v.l.length c] 40)) (.cells #[] 9))
  have E := Lib.hid (And.intro hx (hx.below b0.out)); clear hx
  have P0 := Lib.hid ((Blk.new w 40 #[.int .i64 v.kind, .int .i64 v.n, .int .i64 v.x, .string v.s, .slice A v.l.length c]).alloc (.cells #[] 9))
  have O0 := Lib.hid (OwnF.lit0' (α := ByteArray) (w.alloc (.cells #[.int .i64 v.kind, .int .i64 v.n, .int .i64 v.x, .string v.s, .slice A v.l.length c] 40)) 9 (w.heap.size + 1) (w.heap.size + 1) (by simp) (by omega))
  go_enter Try.func21, Try.ntmps21
  go_wp2_with fail
  refine (specFindS_any v 7 A c _ hn HI.out E.out.2).mono ?_
  rintro e w1 ⟨A1, c1, rfl, hs1, hb1⟩
  rw [← hal] at hs1 ⊢
  clear hal
  have P1 := Lib.hid (P0.out.below hb1)
  have O1 := Lib.hid (O0.out.below hb1)
  have B1 := Lib.hid (bTr b0.out hb1)
  have hz1 : w.heap.size + 2 ≤ w1.heap.size := by have := hb1.size; simp at this; omega
  have S1 := Lib.hid (show SS w1 (fun b => w.heap.size + 2 ≤ b ∧ b < w1.heap.size) all A1 c1 from SS.keep hs1 (fun _ _ => rfl) (fun b h => ⟨by have := h.1; simp at this; omega, h.2⟩))
  have hla : all.length ≤ 9223372036854775807 := by omega
  clear hs1 hb1
  go_wp2_with fail
  go_loopg [3, 5] all.length (fun gk rv i wr => ∃ k : Nat, k ≤ all.length ∧ i = .int .i64 k ∧ gk = all.length - k ∧
    Blk wr w.heap.size 40 #[.int .i64 v.kind, .int .i64 v.n, .int .i64 v.x, .string v.s, .slice A v.l.length c] ∧ SS wr (fun b => w.heap.size + 2 ≤ b ∧ b < w1.heap.size) all A1 c1 ∧
    OwnF wr (w.heap.size + 1) 9 rv ((all.take k).map fun p => (zv (atG v p)).s) ∧ (∀ g, rv.ownBlock = some g → g < w.heap.size + 2 ∨ w1.heap.size ≤ g) ∧ Below w.heap.size w wr ∧ w1.heap.size ≤ wr.heap.size)
  case atStart =>
    exact ⟨0, by omega, rfl, by omega, P1.out, S1.out, O1.out, fun g hg => .inl (by simp [Value.ownBlock] at hg; omega), B1.out, Nat.le_refl _⟩
  case round =>
    obtain ⟨k, hk, rfl, rfl, hP0, hsa, hown, hloc, hbel, hzw⟩ := hrel
    have hz0 := hP0.lt
    by_cases hlt : k < all.length
    · obtain ⟨b, off, Ap, cp, rfl, hb, hsp, k0⟩ := hsa.path_at hlt
      obtain ⟨p0, p1, p2, p3, p4⟩ := hP0.c5
      have hi1 : (k : Int) < all.length := by omega
      have hi2 : (0 : Int) ≤ k := by omega
      have HSA := Lib.hid (show SA wr v.l A c from E.out.1.below hbel)
      have HSP := Lib.hid (show SA wr all[k] Ap cp from SS.keep hsp (fun _ _ => rfl) (fun b h => by have := h.2; omega))
      have n1 : w.heap.size ≠ wr.heap.size := by omega
      have n2 : b ≠ wr.heap.size := by omega
      have n1' : wr.heap.size ≠ w.heap.size := by omega
      have n2' : wr.heap.size ≠ b := by omega
      have hbw : b < wr.heap.size := by omega
      have HH := Lib.hid (And.intro hsa (And.intro hown (And.intro hloc (And.intro hbel hsp))))
      clear hsa hown hloc hbel hsp
      obtain ⟨o, ho⟩ : ∃ o, o = atG v all[k] := ⟨_, rfl⟩
      have HO := Lib.hid ho; clear ho
      go_wp2_with fail
      go_cut [6, 7] from 11 to 31 (fun s6 s7 wx => ∃ gy A2 c2, s6 = .pointer (some ⟨gy, 0, none⟩) ∧ s7 = .bool o.isSome ∧ wr.heap.size ≤ gy ∧ (zv o).s.size ≤ maxLen ∧
        Blk wx gy 40 #[.int .i64 (zv o).kind, .int .i64 (zv o).n, .int .i64 (zv o).x, .string (zv o).s, .slice A2 (zv o).l.length c2] ∧ Below wr.heap.size wr wx)
      case first =>
        go_region_held3 (fun u => u.cell? ⟨w.heap.size, 0, none⟩ = some (.int .i64 v.kind) ∧ u.cell? ⟨w.heap.size, 1, none⟩ = some (.int .i64 v.n) ∧ u.cell? ⟨w.heap.size, 2, none⟩ = some (.int .i64 v.x) ∧ u.cell? ⟨w.heap.size, 3, none⟩ = some (.string v.s) ∧ u.cell? ⟨w.heap.size, 4, none⟩ = some (.slice A v.l.length c) ∧ u.cell? ⟨b, off + k, none⟩ = some (.slice Ap all[k].length cp)) (go_keep)
          (first
            | (go_at_call 60; (first | refine (specAtPath_any v all[k] A Ap c cp _ hn HI.out HSA.out.drew HSP.out.drew).mono ?_ | refine (specAtPath_any v all[k] A Ap c cp _ hn HI.out (HSA.out.below (bAl (bRf wr) _)).drew (HSP.out.below (bAl (bRf wr) _)).drew).mono ?_); (rw [← HO.out]; rintro e w2 ⟨A2, c2, rfl, hsf, hvz, hb2⟩; unfold valB; have HB := Lib.hid (show Below wr.heap.size wr w2 from by first | exact bTr (bRf wr).drew hb2 | exact bTr (bAl (bRf wr) _).drew hb2); obtain ⟨q0, q1, q2, q3, q4⟩ := (hP0.below HB.out).c5; have j0 := (HB.out.cell (p := ⟨b, _, none⟩) hbw).trans k0; obtain ⟨hc2, hf2⟩ := bCell hb2; have hz2 : wr.heap.size ≤ w2.heap.size := HB.out.size; have m1 : w.heap.size ≠ w2.heap.size := (by omega); have m2 : b ≠ w2.heap.size := (by omega); have m1' : w2.heap.size ≠ w.heap.size := (by omega); have m2' : w2.heap.size ≠ b := (by omega); have HS2 := Lib.hid hb2; have HVZ := Lib.hid (show (zv o).s.size ≤ maxLen from hvz.2.2.2); clear hsf hvz hb2)))
        · go_wp2_with fail
          go_meet
          exact ⟨w2.heap.size, A2, c2, rfl, rfl, hz2, HVZ.out, Blk.at rfl, bAl HB.out _⟩
        · go_wp2_with fail
          go_meet
          refine ⟨wr.heap.size, A2, c2, rfl, rfl, Nat.le_refl _, HVZ.out, ?_, ?_⟩
          · exact ((((((Blk.new wr _ _).drew.below HS2.out).set_ 0 _).set_ 1 _).set_ 2 _).set_ 3 _).set_ 4 _
          · refine Below.setCell (Below.setCell (Below.setCell (Below.setCell (Below.setCell HB.out ?_ _) ?_ _) ?_ _) ?_ _) ?_ _
            all_goals (simp; try omega)
      case rest =>
        obtain ⟨gy, A2, c2, rfl, rfl, hgy, hvs, hY, hbx⟩ := hcut
        have y3 := hY.c5.2.2.2.1
        have HX := Lib.hid hbx
        have hwx : wr.heap.size ≤ wc.heap.size := hbx.size
        have P2 := Lib.hid (hP0.below hbx)
        have hO2 := Lib.hid (show OwnF wc (w.heap.size + 1) 9 u3 ((all.take k).map fun p => (zv (atG v p)).s) from HH.out.2.1.below hbx)
        have hsx := Lib.hid (show SS wc (fun b => w.heap.size + 2 ≤ b ∧ b < w1.heap.size) all (some ⟨b, off, none⟩) c1 from SS.keep HH.out.1 (fun b h => hbx.block b (by omega)) (fun _ h => h))
        clear hbx
        have hfl : ((all.take k).map fun p => (zv (atG v p)).s).length ≤ k := by rw [List.length_map, List.length_take]; omega
        have HFL := Lib.hid hfl; clear hfl
        have hfs : (all.take (k + 1)).map (fun p => (zv (atG v p)).s) = (all.take k).map (fun p => (zv (atG v p)).s) ++ [(zv o).s] := by
          rw [List.take_succ_eq_append_getElem hlt, List.map_append, HO.out]; rfl
        have HFS := Lib.hid hfs; clear hfs
        have hlit := Lib.hid (show SA (wc.alloc (.cells #[.string (zv o).s] 9)) [(zv o).s] (some ⟨wc.heap.size, 0, none⟩) 1 from (OwnF.lit1 (RF.str (base := wc.heap.size) (w := wc) (zv o).s hvs) 9 (Nat.le_refl _)).sf.2.sa)
        go_wp2_with (at_builtin; (refine app_list rfl _ _ 44 rfl (v := u3) (u := .slice (some ⟨wc.heap.size, 0, none⟩) 1 1) (by rfl) (by rfl) (run_app_P strPlain 44 _ (w.heap.size + 1) 9 (.string .empty) 16 Try.underlying44 infoString rfl (by decide) u3 _ [(zv o).s] _ _ (hO2.out.alloc _) hlit.out (by have := HFL.out; simp at *; omega) (by have := HFL.out; unfold maxLen; simp at *; omega) (by simp; omega)) ?_; rintro r5 w5 ⟨ho5, hbl5, hlc5, hg5⟩; rw [← HFS.out] at ho5; have HO5 := Lib.hid (And.intro ho5 (And.intro hbl5 (And.intro hlc5 hg5))); clear ho5 hbl5 hlc5 hg5))
        go_roundg (all.length - (k + 1))
        case measure => omega
        case rel =>
          have hgne : ∀ b, w.heap.size + 2 ≤ b → b < w1.heap.size → u3.ownBlock ≠ some b := fun b h1 h2 e => by have := HH.out.2.2.1 b e; omega
          refine ⟨k + 1, by omega, by go_num, rfl, (P2.out.alloc _).keepB HO5.out.2.1 (by omega), ?_, HO5.out.1, ?_, ?_, ?_⟩
          · exact SS.keep hsx.out (fun b h => by rw [HO5.out.2.2.2.block b (by simp; omega) (fun e => hgne b h.1 h.2 e.symm)]; exact (bAl (bRf wc) _).block b (by omega)) (fun _ h => h)
          · intro g hg
            rcases HO5.out.2.2.1 with h | h
            · exact HH.out.2.2.1 g (h ▸ hg)
            · rw [h] at hg; injection hg with hg; right; simp at hg; omega
          · exact (bAl (bTr HH.out.2.2.2.1 HX.out) _).trans (HO5.out.2.1.mono (by omega))
          · have := HO5.out.2.1.size; simp at this; omega
    · have e : k = all.length := by omega
      subst e
      rw [List.take_length] at hown
      obtain ⟨Av, cv, rfl⟩ := hown.form
      have HO := Lib.hid (And.intro hown hbel); clear hown hbel hsa
      go_wp2_with fail
      go_ret
      exact ⟨Av, cv, by rw [R.out.1]; rfl, by rw [R.out.1]; exact HO.out.1.sf.2.sa, HO.out.2⟩
end Go.Proofs.Ytblcmajhdndmfaa
