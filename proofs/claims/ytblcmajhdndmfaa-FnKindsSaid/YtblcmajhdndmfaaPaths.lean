/- Contracts: all paths of a tree, in the reference. -/
import Derived.Test.YtblcmajhdndmfaaAt2
import Derived.Test.YtblcmajhdndmfaaLaw1
namespace Go.Proofs.Ytblcmajhdndmfaa
open Go.RowKit
set_option linter.unusedVariables false
set_option maxRecDepth 100000

theorem stepPlain : ∀ (w : World) (F : List Nat) (a : GStep) (cs : List Value), Rep.rp w F a cs → F = [] := fun _ _ _ _ h => h.1

set_option maxHeartbeats 2000000 in
theorem l8Steps_any (p : List GStep) (s : GStep) (A : Option Addr) (c : Nat) (w : World) (hn : p.length ≤ 4194304) (hI : I64 s.at_) (hp : SA w p A c) :
    Calls Try.prog 117 #[.slice A p.length c, .agg #[.int .i64 s.at_, .bool s.name]] w (RetS w (p ++ [s])) := by
  have E := Lib.hid (hp.below (bAl (bRf w) (.cells #[.int .i64 s.at_, .bool s.name] 109))); clear hp
  have P0 := Lib.hid (Blk.new w 109 #[.int .i64 s.at_, .bool s.name])
  go_enter Try.func117, Try.ntmps117
  go_wp2_with fail
  go_region_held3 (fun u => u.cell? ⟨w.heap.size, 0, none⟩ = some (.int .i64 s.at_) ∧ u.cell? ⟨w.heap.size, 1, none⟩ = some (.bool s.name)) (go_keep)
    (first
      | ((refine app_step rfl (.tmp 5) (.tmp 6) 77 rfl (v := .slice (some ⟨_, 0, none⟩) 0 0) (u := .slice A p.length c) rfl rfl (run_app_P stepPlain 77 _ (w.heap.size + 1) 109 (.agg #[.int .i64 0, .bool false]) 16 Try.underlying77 infoStep rfl (by decide) _ [] p A c (by first | exact (OwnF.lit0' _ _ _ _ (by simp) (by omega)).drew | exact ((OwnF.lit0' _ _ _ _ (by simp) (by omega)).alloc _).drew) (by first | exact (E.out.below (bAl (bRf _) _)).drew | exact (E.out.below (bAl (bAl (bRf _) _) _)).drew) (by simp; omega) (by simp; unfold maxLen; omega) (by simp)) ?_; rintro v1 w1 ⟨ho, hbl, hloc, hg⟩; rw [List.nil_append] at ho; obtain ⟨A1, c1, rfl⟩ := ho.form; have HB1 := Lib.hid (show Below w.heap.size w w1 from Below.trans (by first | exact (bAl (bAl (bRf w) _) _).drew | exact (bAl (bAl (bAl (bRf w) _) _) _).drew) (hbl.mono (by omega))); have HP1 := Lib.hid (Blk.keepB (show Blk _ w.heap.size 109 #[.int .i64 s.at_, .bool s.name] by first | exact (P0.out.alloc _).drew | exact ((P0.out.alloc _).alloc _).drew) hbl (by omega)); obtain ⟨q0, q1⟩ := HP1.out.c2; have hz1 : w.heap.size + 1 ≤ w1.heap.size := (by have := hbl.size; simp at this; omega); have HO1 := Lib.hid ho; have HG := Lib.hid hg; clear ho hbl hloc hg))
      | ((refine app_step rfl (.tmp 7) (.tmp 9) 77 rfl (v := .slice A1 p.length c1) (u := .slice (some ⟨_, 0, none⟩) 1 1) rfl rfl (run_app1_F 77 _ (w.heap.size + 1) 109 (.agg #[.int .i64 0, .bool false]) 16 Try.underlying77 infoStep rfl (by decide) _ p s [.int .i64 s.at_, .bool s.name] w1 ⟨_, 0, none⟩ 1 HO1.out (by first | exact bRf w1 | exact bAl (bRf w1) _) (RF.step s hI) (by first | exact cells_at [.int .i64 s.at_, .bool s.name] rfl | exact Blk.cells (cs := #[.int .i64 s.at_, .bool s.name]) (Blk.grown (Blk.at (by simp)).drew HG.out (by simp [Value.ownBlock] <;> omega)) | exact Blk.cells (cs := #[.int .i64 s.at_, .bool s.name]) (Blk.grown ((Blk.at (by simp)).alloc _).drew HG.out (by simp [Value.ownBlock] <;> omega))) (by omega) (by unfold maxLen; omega) (by omega)) ?_; rintro v2 w2 ⟨ho, hbl, _⟩; obtain ⟨A2, c2, rfl⟩ := ho.form; have HB2 := Lib.hid (show Below w.heap.size w w2 from Below.trans (by first | exact HB1.out | exact bAl HB1.out _) (hbl.mono (by omega))); have HO2 := Lib.hid ho; obtain ⟨r0, r1⟩ := (Blk.keepB (show Blk _ w.heap.size 109 #[.int .i64 s.at_, .bool s.name] by first | exact HP1.out | exact HP1.out.alloc _) hbl (by omega)).c2; clear ho hbl)))
  all_goals
    go_wp2_with fail
    go_ret
    exact ⟨A2, c2, by simp, HO2.out.sf.2.mono (by omega), HB2.out⟩

theorem infoPath : (Try.prog.info? 79).map (fun i => (i.zero, i.size, i.bytes)) = some (some (.agg #[.slice none 0 0]), 1, 24) := by kernel_rfl

def PathsS (v : GVal) : Prop := ∀ (p : List GStep) (A Ap : Option Addr) (c cp : Nat) (w : World), bulkVal v ≤ 1048576 → p.length + bulkVal v ≤ 2097152 → SA w v.l A c → SA w p Ap cp →
    Calls Try.prog 102 #[.agg #[.int .i64 v.kind, .int .i64 v.n, .int .i64 v.x, .string v.s, .slice A v.l.length c], .slice Ap p.length cp] w (RetS w (pathsG p v))

set_option maxHeartbeats 2000000 in
theorem pathsS_ind (v : GVal) : PathsS v := by
  refine GVal.ind (p := PathsS) (fun v IH => ?_) v
  intro p A Ap c cp w hn hd hx hp
  have hn1 := Nat.le_trans (bulk_len v) hn
  have IH' := Lib.hid IH; clear IH
  have E := Lib.hid (And.intro hx hp); clear hx hp
  go_enter Try.func102, Try.ntmps102
  go_wp2_with (at_builtin; (refine app_list rfl _ _ 77 rfl (v := .slice (some ⟨_, 0, none⟩) 0 0) (u := .slice Ap p.length cp) rfl rfl (run_app_P stepPlain 77 _ (w.heap.size + 1) 109 (.agg #[.int .i64 0, .bool false]) 16 Try.underlying77 infoStep rfl (by decide) _ [] p Ap cp (OwnF.lit0' _ _ _ _ (by simp) (by omega)) (E.out.2.below (bAl (bAl (bRf w) _) _)) (by simp; omega) (by simp; unfold maxLen; omega) (by simp)) ?_; rintro v1 w1 ⟨ho, hbl, hloc, hg⟩; rw [List.nil_append] at ho; obtain ⟨A1, c1, rfl⟩ := ho.form; have HO := Lib.hid (And.intro ho hbl); clear ho hbl hloc hg))
  have hz1 : w.heap.size + 1 + 1 ≤ w1.heap.size := by have := HO.out.2.size; simp at this; omega
  have P1 := Lib.hid (Blk.keepB ((Blk.new w 40 #[.int .i64 v.kind, .int .i64 v.n, .int .i64 v.x, .string v.s, .slice A v.l.length c]).alloc (.cells #[] 109)) HO.out.2 (by omega))
  have B1 := Lib.hid (Below.trans (bAl (bAl (bRf w) _) _) (HO.out.2.mono (by omega)))
  go_loopg [5, 6] v.l.length (fun gk rv i wr => ∃ k : Nat, k ≤ v.l.length ∧ i = .int .i64 k ∧ gk = v.l.length - k ∧
    Blk wr w.heap.size 40 #[.int .i64 v.kind, .int .i64 v.n, .int .i64 v.x, .string v.s, .slice A v.l.length c] ∧
    OwnF wr (w.heap.size + 1) 79 rv (pathsTo p v k) ∧ Below w.heap.size w wr)
  case atStart =>
    refine ⟨0, by omega, rfl, by omega, P1.out.alloc _, ?_, bAl B1.out _⟩
    rw [pathsTo_zero]
    exact OwnF.lit1 (SF.rf HO.out.1.sf.2) 79 (by omega)
  case round =>
    obtain ⟨k, hk, rfl, rfl, hP0, hown, hbel⟩ := hrel
    have hz0 := hP0.lt
    by_cases hlt : k < v.l.length
    · obtain ⟨b, off, A', c', rfl, hb, hI, hs, k0, k1, k2, k3, k4⟩ := (E.out.1.below hbel).val_at hlt
      obtain ⟨p0, p1, p2, p3, p4⟩ := hP0.c5
      have HS := Lib.hid (And.intro hI hs); clear hI hs
      obtain ⟨st, hst⟩ : ∃ st, st = stepToG v k := ⟨_, rfl⟩
      have hi1 : (k : Int) < v.l.length := by omega
      have hi2 : (0 : Int) ≤ k := by omega
      have HOW := Lib.hid hown; clear hown
      by_cases hkd : v.kind = 10
      · have hstep : stepToG v k = ⟨(k : Int) / 2, (k : Int) % 2 == 0⟩ := by unfold stepToG; rw [if_pos hkd]; congr 1; (first | omega | (by_cases hh : k % 2 = 0 <;> simp [hh] <;> omega))
        have HST := Lib.hid hstep; clear hstep
        have hkb : (v.kind == 10) = true := by simpa using hkd
        have HKD := Lib.hid hkd; clear hkd
        have hIst : I64 ((k : Int) / 2) := ⟨by omega, by omega⟩
        have hl : (p ++ [(⟨(k : Int) / 2, (k : Int) % 2 == 0⟩ : GStep)]).length = p.length + 1 := by simp
        have HL := Lib.hid hl
        have IHk := Lib.hid (IH'.out k hlt)
        have hbk := bulk_at hlt
        go_wp2_with fail
        have HY0 := Lib.hid (Blk.new wr 109 #[.int .i64 ((k : Int) / 2), .bool ((k : Int) % 2 == 0)])
        have hb' : b < w.heap.size + 1 := by (obtain ⟨b1, off1, cs1, hA, hb1, _⟩ := E.out.1.at hlt; injection hA with hA; injection hA with hA; omega)
        have n1 : w.heap.size ≠ wr.heap.size := by omega
        have n2 : b ≠ wr.heap.size := by omega
        go_region_held3 (fun u => u.cell? ⟨w.heap.size, 4, none⟩ = some (.slice (some ⟨b, off, none⟩) v.l.length c) ∧ u.cell? ⟨b, off + k * 5, none⟩ = some (.int .i64 v.l[k].kind) ∧ u.cell? ⟨b, off + k * 5 + 1, none⟩ = some (.int .i64 v.l[k].n) ∧ u.cell? ⟨b, off + k * 5 + 1 + 1, none⟩ = some (.int .i64 v.l[k].x) ∧ u.cell? ⟨b, off + k * 5 + 1 + 1 + 1, none⟩ = some (.string v.l[k].s) ∧ u.cell? ⟨b, off + k * 5 + 1 + 1 + 1 + 1, none⟩ = some (.slice A' v.l[k].l.length c') ∧ u.cell? ⟨wr.heap.size, 0, none⟩ = some (.int .i64 ((k : Int) / 2)) ∧ u.cell? ⟨wr.heap.size, 1, none⟩ = some (.bool ((k : Int) % 2 == 0))) (go_keep)
          (first
            | (go_at_call 117; (refine (l8Steps_any p ⟨(k : Int) / 2, (k : Int) % 2 == 0⟩ Ap cp _ (by omega) hIst (((E.out.2.below hbel).below (bAl (bRf wr) _)).drew)).mono ?_; rintro e w2 ⟨A2, c2, rfl, hs2, hb2⟩; rw [HL.out]; have HB2 := Lib.hid (show Below wr.heap.size wr w2 from bTr (bAl (bRf wr) _).drew hb2); have HP2 := Lib.hid (hP0.below HB2.out); have HY2 := Lib.hid (HY0.out.drew.below hb2); have HS2 := Lib.hid (show SF wr.heap.size w2 (p ++ [(⟨(k : Int) / 2, (k : Int) % 2 == 0⟩ : GStep)]) A2 c2 from hs2.mono (bAl (bRf wr) _).drew.size); have q24 := (HP2.out.c5).2.2.2.2; have x20 := (HB2.out.cell (p := ⟨b, _, none⟩) hb).trans k0; have x21 := (HB2.out.cell (p := ⟨b, _, none⟩) hb).trans k1; have x22 := (HB2.out.cell (p := ⟨b, _, none⟩) hb).trans k2; have x23 := (HB2.out.cell (p := ⟨b, _, none⟩) hb).trans k3; have x24 := (HB2.out.cell (p := ⟨b, _, none⟩) hb).trans k4; obtain ⟨y20, y21⟩ := HY2.out.c2; clear hs2 hb2))
            | (go_at_call 102; (have hc3 := IHk.out (p ++ [(⟨(k : Int) / 2, (k : Int) % 2 == 0⟩ : GStep)]) A' A2 c' c2 w2 (by omega) (by rw [HL.out]; omega) (HS.out.2.below HB2.out) HS2.out.sa; rw [HL.out] at hc3; refine hc3.mono ?_; rintro e w3 ⟨A3, c3, rfl, hs3, hb3⟩; have HB3 := Lib.hid (show Below wr.heap.size wr w3 from bTr HB2.out hb3); have HP3 := Lib.hid (hP0.below HB3.out); have HY3 := Lib.hid (HY2.out.below hb3); have HS3 := Lib.hid (show SF wr.heap.size w3 (pathsG (p ++ [(⟨(k : Int) / 2, (k : Int) % 2 == 0⟩ : GStep)]) v.l[k]) A3 c3 from hs3.mono HB2.out.size); have q34 := (HP3.out.c5).2.2.2.2; have x30 := (HB3.out.cell (p := ⟨b, _, none⟩) hb).trans k0; have x31 := (HB3.out.cell (p := ⟨b, _, none⟩) hb).trans k1; have x32 := (HB3.out.cell (p := ⟨b, _, none⟩) hb).trans k2; have x33 := (HB3.out.cell (p := ⟨b, _, none⟩) hb).trans k3; have x34 := (HB3.out.cell (p := ⟨b, _, none⟩) hb).trans k4; obtain ⟨y30, y31⟩ := HY3.out.c2; clear hs3 hb3 hc3))
            | ((apply app_step (s := .tmp 31) (x := .tmp 40) (t := 54) (v := u5) (u := .slice A3 (pathsG (p ++ [(⟨(k : Int) / 2, (k : Int) % 2 == 0⟩ : GStep)]) v.l[k]).length c3); exact rfl; exact rfl; (have hrun := run_app_F (P := Try.prog) (W := w3) (α := List GStep) 54 54 (w.heap.size + 1) 79 (.agg #[.slice none 0 0]) 24 Try.underlying54 infoPath rfl (by decide) u5 (pathsTo p v k) _ wr A3 c3 HOW.out HB3.out HS3.out (by have h1 := pathsTo_len p v k; have h2 := pathsG_len v.l[k] (p ++ [(⟨(k : Int) / 2, (k : Int) % 2 == 0⟩ : GStep)]); omega) (by have h1 := pathsTo_len p v k; have h2 := pathsG_len v.l[k] (p ++ [(⟨(k : Int) / 2, (k : Int) % 2 == 0⟩ : GStep)]); unfold maxLen; omega) (by omega); exact hrun; rintro v4 w4 ⟨ho, hbl, _, hg⟩; have HB4 := Lib.hid (show Below (w.heap.size + 1) w3 w4 from hbl); have HP4 := Lib.hid (HP3.out.keepB HB4.out (by omega)); have HY4 := Lib.hid (HY3.out.grown hg (fun e => by have := (HOW.out.own_lt _ e).2; omega)); have HO4 := Lib.hid ho; have q44 := (HP4.out.c5).2.2.2.2; have x40 := (HB4.out.cell (p := ⟨b, _, none⟩) hb').trans x30; have x41 := (HB4.out.cell (p := ⟨b, _, none⟩) hb').trans x31; have x42 := (HB4.out.cell (p := ⟨b, _, none⟩) hb').trans x32; have x43 := (HB4.out.cell (p := ⟨b, _, none⟩) hb').trans x33; have x44 := (HB4.out.cell (p := ⟨b, _, none⟩) hb').trans x34; obtain ⟨y40, y41⟩ := HY4.out.c2; clear ho hbl hg; rotate_left; exact rfl; exact rfl))))
        go_wp2_with fail
        go_roundg (v.l.length - (k + 1))
        case measure => omega
        case rel =>
          exact ⟨k + 1, by omega, by go_num, rfl, HP4.out, by rw [pathsTo_succ p v hlt, HST.out]; exact HO4.out, (bTr hbel HB3.out).trans (HB4.out.mono (by omega))⟩
      · have hstep : stepToG v k = ⟨(k : Int), false⟩ := by unfold stepToG; rw [if_neg hkd]
        have HST := Lib.hid hstep; clear hstep
        have hkb : (v.kind == 10) = false := by simpa using hkd
        have HKD := Lib.hid hkd; clear hkd
        have hIst : I64 ((k : Int)) := ⟨by omega, by omega⟩
        have hl : (p ++ [(⟨(k : Int), false⟩ : GStep)]).length = p.length + 1 := by simp
        have HL := Lib.hid hl
        have IHk := Lib.hid (IH'.out k hlt)
        have hbk := bulk_at hlt
        go_wp2_with fail
        have HY0 := Lib.hid (Blk.new wr 109 #[.int .i64 ((k : Int)), .bool (false)])
        have hb' : b < w.heap.size + 1 := by (obtain ⟨b1, off1, cs1, hA, hb1, _⟩ := E.out.1.at hlt; injection hA with hA; injection hA with hA; omega)
        have n1 : w.heap.size ≠ wr.heap.size := by omega
        have n2 : b ≠ wr.heap.size := by omega
        go_region_held3 (fun u => u.cell? ⟨w.heap.size, 4, none⟩ = some (.slice (some ⟨b, off, none⟩) v.l.length c) ∧ u.cell? ⟨b, off + k * 5, none⟩ = some (.int .i64 v.l[k].kind) ∧ u.cell? ⟨b, off + k * 5 + 1, none⟩ = some (.int .i64 v.l[k].n) ∧ u.cell? ⟨b, off + k * 5 + 1 + 1, none⟩ = some (.int .i64 v.l[k].x) ∧ u.cell? ⟨b, off + k * 5 + 1 + 1 + 1, none⟩ = some (.string v.l[k].s) ∧ u.cell? ⟨b, off + k * 5 + 1 + 1 + 1 + 1, none⟩ = some (.slice A' v.l[k].l.length c') ∧ u.cell? ⟨wr.heap.size, 0, none⟩ = some (.int .i64 ((k : Int))) ∧ u.cell? ⟨wr.heap.size, 1, none⟩ = some (.bool (false))) (go_keep)
          (first
            | (go_at_call 117; (refine (l8Steps_any p ⟨(k : Int), false⟩ Ap cp _ (by omega) hIst (((E.out.2.below hbel).below (bAl (bRf wr) _)).drew)).mono ?_; rintro e w2 ⟨A2, c2, rfl, hs2, hb2⟩; rw [HL.out]; have HB2 := Lib.hid (show Below wr.heap.size wr w2 from bTr (bAl (bRf wr) _).drew hb2); have HP2 := Lib.hid (hP0.below HB2.out); have HY2 := Lib.hid (HY0.out.drew.below hb2); have HS2 := Lib.hid (show SF wr.heap.size w2 (p ++ [(⟨(k : Int), false⟩ : GStep)]) A2 c2 from hs2.mono (bAl (bRf wr) _).drew.size); have q24 := (HP2.out.c5).2.2.2.2; have x20 := (HB2.out.cell (p := ⟨b, _, none⟩) hb).trans k0; have x21 := (HB2.out.cell (p := ⟨b, _, none⟩) hb).trans k1; have x22 := (HB2.out.cell (p := ⟨b, _, none⟩) hb).trans k2; have x23 := (HB2.out.cell (p := ⟨b, _, none⟩) hb).trans k3; have x24 := (HB2.out.cell (p := ⟨b, _, none⟩) hb).trans k4; obtain ⟨y20, y21⟩ := HY2.out.c2; clear hs2 hb2))
            | (go_at_call 102; (have hc3 := IHk.out (p ++ [(⟨(k : Int), false⟩ : GStep)]) A' A2 c' c2 w2 (by omega) (by rw [HL.out]; omega) (HS.out.2.below HB2.out) HS2.out.sa; rw [HL.out] at hc3; refine hc3.mono ?_; rintro e w3 ⟨A3, c3, rfl, hs3, hb3⟩; have HB3 := Lib.hid (show Below wr.heap.size wr w3 from bTr HB2.out hb3); have HP3 := Lib.hid (hP0.below HB3.out); have HY3 := Lib.hid (HY2.out.below hb3); have HS3 := Lib.hid (show SF wr.heap.size w3 (pathsG (p ++ [(⟨(k : Int), false⟩ : GStep)]) v.l[k]) A3 c3 from hs3.mono HB2.out.size); have q34 := (HP3.out.c5).2.2.2.2; have x30 := (HB3.out.cell (p := ⟨b, _, none⟩) hb).trans k0; have x31 := (HB3.out.cell (p := ⟨b, _, none⟩) hb).trans k1; have x32 := (HB3.out.cell (p := ⟨b, _, none⟩) hb).trans k2; have x33 := (HB3.out.cell (p := ⟨b, _, none⟩) hb).trans k3; have x34 := (HB3.out.cell (p := ⟨b, _, none⟩) hb).trans k4; obtain ⟨y30, y31⟩ := HY3.out.c2; clear hs3 hb3 hc3))
            | ((apply app_step (s := .tmp 31) (x := .tmp 40) (t := 54) (v := u5) (u := .slice A3 (pathsG (p ++ [(⟨(k : Int), false⟩ : GStep)]) v.l[k]).length c3); exact rfl; exact rfl; (have hrun := run_app_F (P := Try.prog) (W := w3) (α := List GStep) 54 54 (w.heap.size + 1) 79 (.agg #[.slice none 0 0]) 24 Try.underlying54 infoPath rfl (by decide) u5 (pathsTo p v k) _ wr A3 c3 HOW.out HB3.out HS3.out (by have h1 := pathsTo_len p v k; have h2 := pathsG_len v.l[k] (p ++ [(⟨(k : Int), false⟩ : GStep)]); omega) (by have h1 := pathsTo_len p v k; have h2 := pathsG_len v.l[k] (p ++ [(⟨(k : Int), false⟩ : GStep)]); unfold maxLen; omega) (by omega); exact hrun; rintro v4 w4 ⟨ho, hbl, _, hg⟩; have HB4 := Lib.hid (show Below (w.heap.size + 1) w3 w4 from hbl); have HP4 := Lib.hid (HP3.out.keepB HB4.out (by omega)); have HY4 := Lib.hid (HY3.out.grown hg (fun e => by have := (HOW.out.own_lt _ e).2; omega)); have HO4 := Lib.hid ho; have q44 := (HP4.out.c5).2.2.2.2; have x40 := (HB4.out.cell (p := ⟨b, _, none⟩) hb').trans x30; have x41 := (HB4.out.cell (p := ⟨b, _, none⟩) hb').trans x31; have x42 := (HB4.out.cell (p := ⟨b, _, none⟩) hb').trans x32; have x43 := (HB4.out.cell (p := ⟨b, _, none⟩) hb').trans x33; have x44 := (HB4.out.cell (p := ⟨b, _, none⟩) hb').trans x34; obtain ⟨y40, y41⟩ := HY4.out.c2; clear ho hbl hg; rotate_left; exact rfl; exact rfl))))
        go_wp2_with fail
        go_roundg (v.l.length - (k + 1))
        case measure => omega
        case rel =>
          exact ⟨k + 1, by omega, by go_num, rfl, HP4.out, by rw [pathsTo_succ p v hlt, HST.out]; exact HO4.out, (bTr hbel HB3.out).trans (HB4.out.mono (by omega))⟩
    · have e : k = v.l.length := by omega
      subst e
      rw [pathsTo_all] at hown
      obtain ⟨Av, cv, rfl⟩ := hown.form
      obtain ⟨p0, p1, p2, p3, p4⟩ := hP0.c5
      have HO := Lib.hid (And.intro hown hbel); clear hown hbel
      go_wp2_with fail
      go_ret
      exact ⟨Av, cv, rfl, HO.out.1.sf.2.mono (by omega), HO.out.2⟩
end Go.Proofs.Ytblcmajhdndmfaa
