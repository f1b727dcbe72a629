/- Contracts: the kinds of a tree's values, in the reference. -/
import Derived.Test.YtblcmajhdndmfaaFind4
import Derived.Test.YtblcmajhdndmfaaPre
import Derived.Test.YtblcmajhdndmfaaKinds
import Derived.Test.YtblcmajhdndmfaaPathEq
import Derived.BigQuiet
import Derived.Deep.RegionHeld3
import Derived.Deep.QuietTactic
namespace Go.Proofs.Ytblcmajhdndmfaa
open Go.RowKit
set_option linter.unusedVariables false
set_option maxRecDepth 100000

theorem infoInt : (Try.prog.info? 3).map (fun i => (i.zero, i.size, i.bytes)) = some (some (.int .i64 0), 1, 8) := by kernel_rfl
theorem intPlain : ∀ (w : World) (F : List Nat) (a : Int) (cs : List Value), Rep.rp w F a cs → F = [] := fun _ _ _ _ h => h.1
section
variable {α : Type} [Rep α]
theorem SA.takeK {w : World} {l : List α} {A : Option Addr} {c : Nat} (h : SA w l A c) (k : Nat) (hk : k ≤ l.length) : SA w (l.take k) A c := (SA.take h k hk).1
theorem SA.dropK {w : World} {l : List α} {b off c : Nat} (h : SA w l (some ⟨b, off, none⟩) c) (k : Nat) (hk : k ≤ l.length) : SA w (l.drop k) (if c = k then some ⟨b, off, none⟩ else some ⟨b, off + k * Rep.wd α, none⟩) (c - k) := by
  by_cases e : c = k
  · rw [if_pos e]
    obtain ⟨F, ⟨h1, h2, _⟩, hF⟩ := h
    have hl : l.drop k = [] := List.drop_eq_nil_of_le (by omega)
    rw [hl]
    exact ⟨[], ⟨by simp, by omega, .inl ⟨rfl, rfl, fun h => by cases h⟩⟩, by simp⟩
  · rw [if_neg e]
    obtain ⟨F, ⟨h1, h2, h3⟩, hF⟩ := h
    rcases h3 with ⟨rfl, rfl, hz⟩ | ⟨b', off', F', xs, hA, rfl, he, hc⟩
    · exact ⟨[], ⟨by simp, by omega, .inl ⟨by simp, rfl, fun h => by cases h⟩⟩, by simp⟩
    · injection hA with hA; injection hA with e1 e2
      subst e1 e2
      rw [← List.take_append_drop k l] at he
      obtain ⟨F1, F2, x1, x2, rfl, rfl, he1, he2⟩ := he.split
      have hx1 := he1.len
      rw [List.length_take, Nat.min_eq_left hk] at hx1
      refine ⟨b :: F2, ⟨by simp; omega, by omega, .inr ⟨b, _, F2, x2, rfl, rfl, he2, ?_⟩⟩, fun x hx => hF x ?_⟩
      · refine hc.sub fun j v hj => ?_
        rw [List.getElem?_append_right (by omega), ← hj]
        congr 1; omega
      · simp only [List.mem_cons, List.mem_append] at hx ⊢
        rcases hx with rfl | hx
        · exact .inl rfl
        · exact .inr (.inr hx)
end
theorem run_app_Pn {α : Type} [Rep α] {P : Program} {W : World} (hP : ∀ w F (a : α) cs, Rep.rp w F a cs → F = []) (t ty : TypeId) (base : Nat) (e : TypeId) (z : Value) (bytes : Nat) (ht : P.underlying t = some (.slice e))
    (hinfo : (P.info? e).map (fun i => (i.zero, i.size, i.bytes)) = some (some z, Rep.wd α, bytes)) (hzs : z.cells.size = Rep.wd α) (hsz : 0 < Rep.wd α)
    (v : Value) (l ys : List α) (A : Option Addr) (c n : Nat) (hn : n = ys.length) (hown : OwnF W base e v l) (hr : SA W ys A c)
    (hbytes : (l.length + ys.length) * bytes ≤ 140737488355328) (h63 : l.length + ys.length ≤ maxLen) (hbase : base ≤ W.heap.size) :
    ∃ v' w', (Builtin.append_ #[t, t] ty #[v, .slice A n c]).run P W = .ok v' w' ∧ AppF W base e v (l ++ ys) v' w' := by
  subst hn; exact run_app_P hP t ty base e z bytes ht hinfo hzs hsz v l ys A c hown hr hbytes h63 hbase
theorem getD_at {l : List Int} {i : Nat} (h : i < l.length) : l.getD i 0 = l[i] := by simp [List.getD, List.getElem?_eq_getElem h]
theorem intLit {W : World} {g : Nat} {x : Int} {t : TypeId} (h : Blk W g t #[.int .i64 x]) (hx : I64 x) : SA W [x] (some ⟨g, 0, none⟩) 1 :=
  ⟨[g], ⟨by simp, by simp [maxLen], .inr ⟨g, 0, [], [.int .i64 x], rfl, rfl, Elems.single ⟨rfl, rfl, hx⟩, fun j v hj => by
    have := h.cell j
    rw [Nat.zero_add, this]
    match j with
    | 0 => simpa using hj
    | j + 1 => simp at hj⟩⟩, fun b hb => by simp at hb; subst hb; exact h.lt⟩
theorem insFold_len : ∀ (l acc : List Int), (l.foldl insK acc).length ≤ acc.length + l.length
  | [], acc => by simp
  | x :: l, acc => by
    have h1 := insFold_len l (insK acc x)
    have h2 := insK_len acc x
    rw [List.foldl_cons, List.length_cons]; omega
def kindsG (v : GVal) : List Int := ((pathsG [] v).map fun p => (zv (atG v p)).kind).foldl insK []

set_option maxHeartbeats 4000000 in
theorem specKindsIn_any (v : GVal) (A : Option Addr) (c : Nat) (w : World) (hn : bulkVal v ≤ 1048576) (hv : VInt v) (hx : SA w v.l A c) :
    Calls Try.prog 38 #[.agg #[.int .i64 v.kind, .int .i64 v.n, .int .i64 v.x, .string v.s, .slice A v.l.length c]] w (RetSA w (kindsG v)) := by
  obtain ⟨r, hr⟩ : ∃ r, r = kindsG v := ⟨_, rfl⟩
  rw [← hr]
  unfold kindsG at hr
  have hall : (pathsG [] v).length ≤ 1048577 := by have := pathsG_len v []; omega
  obtain ⟨all, hal⟩ : ∃ all, all = pathsG [] v := ⟨_, rfl⟩
  rw [← hal] at hr hall
  have R := Lib.hid (And.intro hr hal); clear hr
  have HI := Lib.hid hv; clear hv
  have b0 := Lib.hid (bAl (bAl (bRf w) (.cells #[.int .i64 v.kind, .int .i64 v.n, .int .i64 v.x, .string v.s, .slice A v.l.length c] 40)) (.cells #[] 3))
  have E := Lib.hid (And.intro hx (hx.below b0.out)); clear hx
  have P0 := Lib.hid ((Blk.new w 40 #[.int .i64 v.kind, .int .i64 v.n, .int .i64 v.x, .string v.s, .slice A v.l.length c]).alloc (.cells #[] 3))
  have O0 := Lib.hid (OwnF.lit0' (α := Int) (w.alloc (.cells #[.int .i64 v.kind, .int .i64 v.n, .int .i64 v.x, .string v.s, .slice A v.l.length c] 40)) 3 (w.heap.size + 1) (w.heap.size + 1) (by simp) (by omega))
  go_enter Try.func38, Try.ntmps38
  go_wp2_with fail
  refine (specAllPaths_any v A c _ hn E.out.2).mono ?_
  rintro e w1 ⟨A1, c1, rfl, hs1, hb1⟩
  rw [← hal] at hs1 ⊢
  clear hal
  have P1 := Lib.hid (P0.out.below hb1)
  have O1 := Lib.hid (O0.out.below hb1)
  have B1 := Lib.hid (bTr b0.out hb1)
  have S1 := Lib.hid hs1.sa
  have hla : all.length ≤ 9223372036854775807 := by omega
  clear hs1 hb1
  go_wp2_with fail
  go_loopg [3, 5] all.length (fun gk rv i wr => ∃ (k : Nat) (acc : List Int) (g3 c3 : Nat), k ≤ all.length ∧ i = .int .i64 k ∧ gk = all.length - k ∧ acc.length ≤ k ∧ Hid (acc = ((all.take k).map fun p => (zv (atG v p)).kind).foldl insK []) ∧
    Blk wr w.heap.size 40 #[.int .i64 v.kind, .int .i64 v.n, .int .i64 v.x, .string v.s, .slice A v.l.length c] ∧ SA wr all A1 c1 ∧
    rv = .slice (some ⟨g3, 0, none⟩) acc.length c3 ∧ OwnF wr (w.heap.size + 1) 3 (.slice (some ⟨g3, 0, none⟩) acc.length c3) acc ∧ Below w.heap.size w wr)
  case atStart =>
    exact ⟨0, [], w.heap.size + 1, 0, by omega, rfl, by omega, by simp, rfl, P1.out, S1.out, rfl, O1.out, B1.out⟩
  case round =>
    obtain ⟨k, acc, g3, c3, hk, rfl, rfl, hacc, hAcc, hP0, hsa, rfl, hown, hbel⟩ := hrel
    have hz0 := hP0.lt
    by_cases hlt : k < all.length
    · obtain ⟨b, off, Ap, cp, rfl, hb, hsp, k0⟩ := hsa.path_at hlt
      obtain ⟨p0, p1, p2, p3, p4⟩ := hP0.c5
      have hi1 : (k : Int) < all.length := by omega
      have hi2 : (0 : Int) ≤ k := by omega
      have HSA := Lib.hid (show SA wr v.l A c from E.out.1.below hbel)
      have HSP := Lib.hid hsp
      have n1 : w.heap.size ≠ wr.heap.size := by omega
      have n2 : b ≠ wr.heap.size := by omega
      have n1' : wr.heap.size ≠ w.heap.size := by omega
      have n2' : wr.heap.size ≠ b := by omega
      have hbw : b < wr.heap.size := by omega
      have HH := Lib.hid (And.intro hsa (And.intro hown hbel))
      clear hsa hown hbel hsp
      obtain ⟨o, ho⟩ : ∃ o, o = atG v all[k] := ⟨_, rfl⟩
      have HO := Lib.hid ho; clear ho
      go_wp2_with fail
      go_cut [6, 7] from 12 to 68 (fun s6 s7 wx => ∃ gy A2 c2, s6 = .pointer (some ⟨gy, 0, none⟩) ∧ s7 = .bool o.isSome ∧ wr.heap.size ≤ gy ∧ VInt (zv o) ∧
        Blk wx gy 40 #[.int .i64 (zv o).kind, .int .i64 (zv o).n, .int .i64 (zv o).x, .string (zv o).s, .slice A2 (zv o).l.length c2] ∧ Below wr.heap.size wr wx)
      case first =>
        go_region_held3 (fun u => u.cell? ⟨w.heap.size, 0, none⟩ = some (.int .i64 v.kind) ∧ u.cell? ⟨w.heap.size, 1, none⟩ = some (.int .i64 v.n) ∧ u.cell? ⟨w.heap.size, 2, none⟩ = some (.int .i64 v.x) ∧ u.cell? ⟨w.heap.size, 3, none⟩ = some (.string v.s) ∧ u.cell? ⟨w.heap.size, 4, none⟩ = some (.slice A v.l.length c) ∧ u.cell? ⟨b, off + k, none⟩ = some (.slice Ap all[k].length cp)) (go_keep)
          (first
            | (go_at_call 60; (first | refine (specAtPath_any v all[k] A Ap c cp _ hn HI.out HSA.out.drew HSP.out.drew).mono ?_ | refine (specAtPath_any v all[k] A Ap c cp _ hn HI.out (HSA.out.below (bAl (bRf wr) _)).drew (HSP.out.below (bAl (bRf wr) _)).drew).mono ?_); (rw [← HO.out]; rintro e w2 ⟨A2, c2, rfl, hsf, hvz, hb2⟩; unfold valB; have HB := Lib.hid (show Below wr.heap.size wr w2 from by first | exact bTr (bRf wr).drew hb2 | exact bTr (bAl (bRf wr) _).drew hb2); obtain ⟨q0, q1, q2, q3, q4⟩ := (hP0.below HB.out).c5; have j0 := (HB.out.cell (p := ⟨b, _, none⟩) hbw).trans k0; obtain ⟨hc2, hf2⟩ := bCell hb2; have hz2 : wr.heap.size ≤ w2.heap.size := HB.out.size; have m1 : w.heap.size ≠ w2.heap.size := (by omega); have m2 : b ≠ w2.heap.size := (by omega); have m1' : w2.heap.size ≠ w.heap.size := (by omega); have m2' : w2.heap.size ≠ b := (by omega); have HVZ := Lib.hid hvz; have HS2 := Lib.hid hb2; clear hsf hvz hb2)))
        · go_wp2_with fail
          go_meet
          exact ⟨w2.heap.size, A2, c2, rfl, rfl, hz2, HVZ.out, Blk.at rfl, bAl HB.out _⟩
        · go_wp2_with fail
          go_meet
          refine ⟨wr.heap.size, A2, c2, rfl, rfl, Nat.le_refl _, HVZ.out, ?_, ?_⟩
          · exact ((((((Blk.new wr _ _).drew.below HS2.out).set_ 0 _).set_ 1 _).set_ 2 _).set_ 3 _).set_ 4 _
          · refine Below.setCell (Below.setCell (Below.setCell (Below.setCell (Below.setCell HB.out ?_ _) ?_ _) ?_ _) ?_ _) ?_ _
            all_goals (simp; try omega)
      case rest =>
        obtain ⟨gy, A2, c2, rfl, rfl, hgy, hvz, hY, hbx⟩ := hcut
        have y0 := hY.c5.1
        have hP2 := Lib.hid (hP0.below hbx)
        have hO2 := HH.out.2.1.below hbx
        have hsa2 := hO2.sf.2.sa
        have hgl := hY.lt
        have hwx : wr.heap.size ≤ wc.heap.size := hbx.size
        obtain ⟨x, hxk⟩ : ∃ x, x = (zv o).kind := ⟨_, rfl⟩
        rw [← hxk] at y0
        have hxI : I64 x := by rw [hxk]; exact hvz.1
        have HX := Lib.hid (And.intro hbx (And.intro hO2 (And.intro hsa2 (And.intro hxk hxI)))); clear hbx hO2 hxI hY hvz hxk
        have hsl := hsa2.len
        have hac : acc.length ≤ 1048577 := by omega
        have hc3 : c3 ≤ 9223372036854775807 := by have := hsl.2; unfold maxLen at this; exact this
        have hc3l : acc.length ≤ c3 := hsl.1
        clear hsl hsa2
        obtain ⟨K, hK⟩ : ∃ K, K = posK acc x acc.length := ⟨_, rfl⟩
        have hKl : K ≤ acc.length := by rw [hK]; exact posK_le _ _ _
        have HK := Lib.hid hK; clear hK
        go_wp2_with fail
        go_loopg [8] acc.length (fun gk s8 wr => ∃ n : Nat, s8 = .int .i64 n ∧ gk = n ∧ n ≤ acc.length ∧ Hid (posK acc x n = K) ∧ Below wc.heap.size wc wr)
        case atStart => exact ⟨acc.length, rfl, rfl, Nat.le_refl _, HK.out.symm, bRf wc⟩
        case round =>
          obtain ⟨n, rfl, rfl, hnl, hnK, hb2⟩ := hrel
          have hz2 : wc.heap.size ≤ wr.heap.size := hb2.size
          rcases Nat.eq_zero_or_pos gk with rfl | hpos
          · have hd0 : decide ((0 : Int) < 0) = false := rfl
            have y1 := (hb2.cell (p := ⟨gy, 0, none⟩) hgl).trans y0
            have hj0 : (0 : Int) ≤ c3 := by omega
            have hj1 : (0 : Int) ≤ acc.length := by omega
            go_wp2_with fail
            go_quiet (fail)
            go_wp2_with fail
            go_quiet (fail)
            go_wp2_with fail
            have hgy2 : gy < wr.heap.size := by omega
            have hSA := (HX.out.2.2.1.below hb2).takeK 0 (by omega)
            have hSC : SA wr (acc.drop 0) (some ⟨g3, 0, none⟩) c3 := HX.out.2.2.1.below hb2
            have HLn := Lib.hid (show (acc.take 0).length = 0 ∧ (acc.drop 0).length = acc.length from ⟨by simp, by simp⟩)
            go_region_held3 (fun u => u.cell? ⟨gy, 0, none⟩ = some (.int .i64 x)) (go_keep)
              (first
                | ((apply app_step (s := .tmp 56) (x := .tmp 59) (t := 58) (v := .slice (some ⟨_, 0, none⟩) 0 0) (u := .slice (some ⟨g3, 0, none⟩) 0 c3); (try case hgd => exact rfl); (try case ho => exact rfl); (try case hs => exact rfl); (try case hx => exact rfl); (case hrun => exact run_app_Pn (P := Try.prog) intPlain 58 58 wr.heap.size 3 (.int .i64 0) 8 Try.underlying58 infoInt rfl (by decide) _ [] (acc.take 0) (some ⟨g3, 0, none⟩) c3 0 (by rw [HLn.out.1]) (by first | exact OwnF.lit0' _ _ _ _ (by simp) (by simp) | exact (OwnF.lit0' _ _ _ _ (by simp) (by simp)).alloc _) (by first | exact hSA.below (bAl (below_drewN (bRf wr) _) _) | exact hSA.below (bAl (bAl (below_drewN (bRf wr) _) _) _)) (by rw [HLn.out.1]; simp <;> omega) (by rw [HLn.out.1]; unfold maxLen; simp <;> omega) (by simp <;> omega)); rintro v3 w3 ⟨ho3, hbl3, hloc3, hg3⟩; rw [List.nil_append] at ho3; have HB3 := Lib.hid (show Below wr.heap.size wr w3 from Below.trans (by first | exact bAl (below_drewN (bRf wr) _) _ | exact bAl (bAl (below_drewN (bRf wr) _) _) _) hbl3); have y3 := (HB3.out.cell (p := ⟨gy, 0, none⟩) hgy2).trans y1; have HO3 := Lib.hid ho3; have hz3 : wr.heap.size ≤ w3.heap.size := HB3.out.size; (first | (have HL3 := Lib.hid (Blk.grown (show Blk _ wr.heap.size 3 #[.int .i64 x] from (Blk.at (by simp)).alloc _) hg3 (by simp [Value.ownBlock]))) | (have HL3 := Lib.hid (Blk.grown (show Blk _ (wr.heap.size + 1) 3 #[.int .i64 x] from Blk.at (by simp)) hg3 (by simp [Value.ownBlock]))) | (have HL3 := Lib.hid True.intro)); clear ho3 hbl3 hloc3 hg3))
                | ((apply app_step (s := .tmp 60) (x := .tmp 63) (t := 58) (v := v3) (u := .slice (some ⟨_, 0, none⟩) 1 1); (try case hgd => exact rfl); (try case ho => exact rfl); (try case hs => exact rfl); (try case hx => exact rfl); (case hrun => exact run_app_Pn (P := Try.prog) intPlain 58 58 wr.heap.size 3 (.int .i64 0) 8 Try.underlying58 infoInt rfl (by decide) v3 (acc.take 0) [x] _ _ 1 rfl (by first | exact HO3.out | exact HO3.out.alloc _) (by first | exact intLit HL3.out HX.out.2.2.2.2 | exact intLit (Blk.at rfl) HX.out.2.2.2.2) (by rw [HLn.out.1]; simp <;> omega) (by rw [HLn.out.1]; unfold maxLen; simp <;> omega) (by first | omega | (simp; omega))); rintro v4 w4 ⟨ho4, hbl4, hloc4, hg4⟩; have HB4 := Lib.hid (show Below wr.heap.size wr w4 from HB3.out.trans (by first | exact hbl4 | exact Below.trans ((Below.refl _ _).alloc hz3 _) hbl4)); have y4 := (HB4.out.cell (p := ⟨gy, 0, none⟩) hgy2).trans y1; have HO4 := Lib.hid ho4; have hz4 : wr.heap.size ≤ w4.heap.size := HB4.out.size; clear ho4 hbl4 hloc4 hg4))
                | ((apply app_step (s := .tmp 64) (x := .tmp 67) (t := 58) (v := v4) (u := .slice (some ⟨g3, 0, none⟩) acc.length c3); (try case hgd => exact rfl); (try case ho => exact rfl); (try case hs => exact rfl); (try case hx => exact rfl); (case hrun => exact run_app_Pn (P := Try.prog) intPlain 58 58 wr.heap.size 3 (.int .i64 0) 8 Try.underlying58 infoInt rfl (by decide) v4 ((acc.take 0) ++ [x]) (acc.drop 0) _ c3 acc.length (by rw [HLn.out.2]) HO4.out (hSC.below HB4.out) (by rw [List.length_append, HLn.out.1, HLn.out.2]; simp <;> omega) (by rw [List.length_append, HLn.out.1, HLn.out.2]; unfold maxLen; simp <;> omega) (by omega)); rintro v5 w5 ⟨ho5, hbl5, hloc5, hg5⟩; have HB5 := Lib.hid (show Below wr.heap.size wr w5 from HB4.out.trans hbl5); have y5 := (HB5.out.cell (p := ⟨gy, 0, none⟩) hgy2).trans y1; have HO5 := Lib.hid ho5; clear ho5 hbl5 hloc5 hg5)))
            all_goals
              go_wp2_with fail
              have hl5 : 0 < ((acc.take 0) ++ [x] ++ (acc.drop 0)).length := by simp <;> omega
              obtain ⟨A5, c5, rfl⟩ := HO5.out.form
              obtain ⟨g5, rfl⟩ := HO5.out.block hl5
              go_roundg (all.length - (k + 1))
              case measure => omega
              case rel =>
                have hins : (acc.take 0) ++ [x] ++ (acc.drop 0) = insK acc x := by unfold insK; rw [← HK.out, ← hnK.out]; simp [posK]
                have hb5 := HX.out.1.trans ((hb2.mono hwx).trans (HB5.out.mono (by omega)))
                refine ⟨k + 1, insK acc x, g5, c5, by omega, by go_num, rfl, by have := insK_len acc x; omega, ?_, hP2.out.below ?_, HH.out.1.below hb5, by first | (rw [← hins]; done) | (rw [← hins]; simp), ?_, bTr HH.out.2.2 hb5⟩
                · show insK acc x = _
                  rw [List.take_succ_eq_append_getElem hlt, List.map_append, List.foldl_append, ← hAcc.out, HX.out.2.2.2.1, HO.out]; rfl
                · exact bTr hb2 HB5.out
                · rw [← hins]; exact HO5.out.mono (by omega)
          · obtain ⟨m, rfl⟩ : ∃ m, gk = m + 1 := ⟨gk - 1, by omega⟩
            have hml : m < acc.length := by omega
            obtain ⟨b3, off3, hA3, _, hI3, k3⟩ := (HX.out.2.2.1.below hb2).int_at hml
            injection hA3 with hA3; injection hA3 with e1 e2
            subst e1 e2
            rw [Nat.zero_add] at k3
            have y1 := (hb2.cell (p := ⟨gy, 0, none⟩) hgl).trans y0
            have hw1 : IntKind.i64.wrap ((m : Int) + 1 - 1) = m := by rw [IntKind.wrap_i64]; omega
            have hw2 : IntKind.i64.wrap (m : Int) = m := by rw [IntKind.wrap_i64]; omega
            have hj1 : (m : Int) < acc.length := by omega
            have hj2 : (0 : Int) ≤ m := by omega
            have hj3 : (0 : Int) < (m : Int) + 1 := by omega
            have hd0 : decide ((0 : Int) < (m : Int) + 1) = true := decide_eq_true hj3
            have hd1 : ((m : Int) + 1 == 0) = false := by rw [beq_eq_false_iff_ne]; omega
            obtain ⟨a, ha⟩ : ∃ a, a = acc[m] := ⟨_, rfl⟩
            rw [← ha] at k3 hI3
            have HA := Lib.hid ha; clear ha
            cases hq : decide (x < a) with
            | true =>
              go_wp2_with fail
              go_quiet (fail)
              go_wp2_with fail
              go_roundg m
              case measure => omega
              case rel =>
                refine ⟨m, rfl, rfl, by omega, ?_, below_drewN hb2 _⟩
                have h := hnK.out
                rw [posK, if_pos (by rw [getD_at hml, ← HA.out]; exact of_decide_eq_true hq)] at h
                exact h
            | false =>
              cases hq2 : (a != x) with
              | true =>
                go_wp2_with fail
                go_quiet (fail)
                go_wp2_with fail
                go_quiet (fail)
                go_wp2_with fail
                have hgy2 : gy < wr.heap.size := by omega
                have hm1 : m + 1 ≤ acc.length := by omega
                have hSA := (HX.out.2.2.1.below hb2).takeK (m + 1) hm1
                have hSC0 := (HX.out.2.2.1.below hb2).dropK (m + 1) hm1
                have HLn := Lib.hid (show (acc.take (m + 1)).length = m + 1 ∧ (acc.drop (m + 1)).length = acc.length - (m + 1) from ⟨by rw [List.length_take]; omega, by simp⟩)
                have hKm : K = m + 1 := by
                  have h := hnK.out
                  rw [posK, if_neg (by rw [getD_at hml, ← HA.out]; exact of_decide_eq_false hq)] at h
                  exact h.symm
                have HIn := Lib.hid (show acc.take (m + 1) ++ [x] ++ acc.drop (m + 1) = insK acc x by
                  unfold insK; rw [← HK.out, hKm, if_pos (.inr (by rw [Nat.add_sub_cancel, getD_at hml, ← HA.out]; simpa using hq2))])
                have hi0 : ¬ (c3 = 0) := by omega
                have hi3 : (0 : Int) ≤ (m : Int) + 1 := by omega
                have hi4 : (m : Int) + 1 ≤ c3 := by omega
                have hi5 : (m : Int) + 1 ≤ acc.length := by omega
                have hi6 : ((m : Int) + 1).toNat = m + 1 := by omega
                have hi7 : (acc.length : Int) ≤ c3 := by omega
                clear hKm hq hq2
                rcases Decidable.em (c3 = m + 1) with hcj | hcj
                · subst hcj
                  rw [if_pos rfl, Nat.sub_self] at hSC0
                  have hSC := hSC0
                  have hz0' : acc.length - (m + 1) = 0 := by omega
                  have hi8 : (acc.length : Int) ≤ (m : Int) + 1 := by omega
                  go_region_held3 (fun u => u.cell? ⟨gy, 0, none⟩ = some (.int .i64 x)) (go_keep)
                    (first
                      | ((apply app_step (s := .tmp 56) (x := .tmp 59) (t := 58) (v := .slice (some ⟨_, 0, none⟩) 0 0) (u := .slice (some ⟨g3, 0, none⟩) (m + 1) (m + 1)); (try case hgd => exact rfl); (try case ho => exact rfl); (try case hs => exact rfl); (try case hx => exact rfl); (case hrun => exact run_app_Pn (P := Try.prog) intPlain 58 58 wr.heap.size 3 (.int .i64 0) 8 Try.underlying58 infoInt rfl (by decide) _ [] (acc.take (m + 1)) (some ⟨g3, 0, none⟩) (m + 1) (m + 1) (by rw [HLn.out.1]) (by first | exact OwnF.lit0' _ _ _ _ (by simp) (by simp) | exact (OwnF.lit0' _ _ _ _ (by simp) (by simp)).alloc _) (by first | exact hSA.below (bAl (below_drewN (bRf wr) _) _) | exact hSA.below (bAl (bAl (below_drewN (bRf wr) _) _) _)) (by rw [HLn.out.1]; simp <;> omega) (by rw [HLn.out.1]; unfold maxLen; simp <;> omega) (by simp <;> omega)); rintro v3 w3 ⟨ho3, hbl3, hloc3, hg3⟩; rw [List.nil_append] at ho3; have HB3 := Lib.hid (show Below wr.heap.size wr w3 from Below.trans (by first | exact bAl (below_drewN (bRf wr) _) _ | exact bAl (bAl (below_drewN (bRf wr) _) _) _) hbl3); have y3 := (HB3.out.cell (p := ⟨gy, 0, none⟩) hgy2).trans y1; have HO3 := Lib.hid ho3; have hz3 : wr.heap.size ≤ w3.heap.size := HB3.out.size; (first | (have HL3 := Lib.hid (Blk.grown (show Blk _ wr.heap.size 3 #[.int .i64 x] from (Blk.at (by simp)).alloc _) hg3 (by simp [Value.ownBlock]))) | (have HL3 := Lib.hid (Blk.grown (show Blk _ (wr.heap.size + 1) 3 #[.int .i64 x] from Blk.at (by simp)) hg3 (by simp [Value.ownBlock]))) | (have HL3 := Lib.hid True.intro)); clear ho3 hbl3 hloc3 hg3))
                      | ((apply app_step (s := .tmp 60) (x := .tmp 63) (t := 58) (v := v3) (u := .slice (some ⟨_, 0, none⟩) 1 1); (try case hgd => exact rfl); (try case ho => exact rfl); (try case hs => exact rfl); (try case hx => exact rfl); (case hrun => exact run_app_Pn (P := Try.prog) intPlain 58 58 wr.heap.size 3 (.int .i64 0) 8 Try.underlying58 infoInt rfl (by decide) v3 (acc.take (m + 1)) [x] _ _ 1 rfl (by first | exact HO3.out | exact HO3.out.alloc _) (by first | exact intLit HL3.out HX.out.2.2.2.2 | exact intLit (Blk.at rfl) HX.out.2.2.2.2) (by rw [HLn.out.1]; simp <;> omega) (by rw [HLn.out.1]; unfold maxLen; simp <;> omega) (by first | omega | (simp; omega))); rintro v4 w4 ⟨ho4, hbl4, hloc4, hg4⟩; have HB4 := Lib.hid (show Below wr.heap.size wr w4 from HB3.out.trans (by first | exact hbl4 | exact Below.trans ((Below.refl _ _).alloc hz3 _) hbl4)); have y4 := (HB4.out.cell (p := ⟨gy, 0, none⟩) hgy2).trans y1; have HO4 := Lib.hid ho4; have hz4 : wr.heap.size ≤ w4.heap.size := HB4.out.size; clear ho4 hbl4 hloc4 hg4))
                      | ((apply app_step (s := .tmp 64) (x := .tmp 67) (t := 58) (v := v4) (u := .slice (some ⟨g3, 0, none⟩) 0 0); (try case hgd => exact rfl); (try case ho => exact rfl); (try case hs => exact rfl); (try case hx => exact rfl); (case hrun => exact run_app_Pn (P := Try.prog) intPlain 58 58 wr.heap.size 3 (.int .i64 0) 8 Try.underlying58 infoInt rfl (by decide) v4 ((acc.take (m + 1)) ++ [x]) (acc.drop (m + 1)) _ 0 0 (by rw [HLn.out.2, hz0']) HO4.out (hSC.below HB4.out) (by rw [List.length_append, HLn.out.1, HLn.out.2]; simp <;> omega) (by rw [List.length_append, HLn.out.1, HLn.out.2]; unfold maxLen; simp <;> omega) (by omega)); rintro v5 w5 ⟨ho5, hbl5, hloc5, hg5⟩; have HB5 := Lib.hid (show Below wr.heap.size wr w5 from HB4.out.trans hbl5); have y5 := (HB5.out.cell (p := ⟨gy, 0, none⟩) hgy2).trans y1; have HO5 := Lib.hid ho5; clear ho5 hbl5 hloc5 hg5)))
                  all_goals
                    go_wp2_with fail
                    have hl5 : 0 < ((acc.take (m + 1)) ++ [x] ++ (acc.drop (m + 1))).length := by simp <;> omega
                    obtain ⟨A5, c5, rfl⟩ := HO5.out.form
                    obtain ⟨g5, rfl⟩ := HO5.out.block hl5
                    go_roundg (all.length - (k + 1))
                    case measure => omega
                    case rel =>
                      have hins : (acc.take (m + 1)) ++ [x] ++ (acc.drop (m + 1)) = insK acc x := HIn.out
                      have hb5 := HX.out.1.trans ((hb2.mono hwx).trans (HB5.out.mono (by omega)))
                      refine ⟨k + 1, insK acc x, g5, c5, by omega, by go_num, rfl, by have := insK_len acc x; omega, ?_, hP2.out.below ?_, HH.out.1.below hb5, by first | (rw [← hins]; done) | (rw [← hins]; simp), ?_, bTr HH.out.2.2 hb5⟩
                      · show insK acc x = _
                        rw [List.take_succ_eq_append_getElem hlt, List.map_append, List.foldl_append, ← hAcc.out, HX.out.2.2.2.1, HO.out]; rfl
                      · exact bTr hb2 HB5.out
                      · rw [← hins]; exact HO5.out.mono (by omega)
                · rw [if_neg hcj] at hSC0
                  have hSC : SA wr (acc.drop (m + 1)) (some ⟨g3, m + 1, none⟩) (c3 - (m + 1)) := by simpa [Rep.wd] using hSC0
                  have hcj' : ¬ (m + 1 = c3) := fun h => hcj h.symm
                  go_region_held3 (fun u => u.cell? ⟨gy, 0, none⟩ = some (.int .i64 x)) (go_keep)
                    (first
                      | ((apply app_step (s := .tmp 56) (x := .tmp 59) (t := 58) (v := .slice (some ⟨_, 0, none⟩) 0 0) (u := .slice (some ⟨g3, 0, none⟩) (m + 1) c3); (try case hgd => exact rfl); (try case ho => exact rfl); (try case hs => exact rfl); (try case hx => exact rfl); (case hrun => exact run_app_Pn (P := Try.prog) intPlain 58 58 wr.heap.size 3 (.int .i64 0) 8 Try.underlying58 infoInt rfl (by decide) _ [] (acc.take (m + 1)) (some ⟨g3, 0, none⟩) c3 (m + 1) (by rw [HLn.out.1]) (by first | exact OwnF.lit0' _ _ _ _ (by simp) (by simp) | exact (OwnF.lit0' _ _ _ _ (by simp) (by simp)).alloc _) (by first | exact hSA.below (bAl (below_drewN (bRf wr) _) _) | exact hSA.below (bAl (bAl (below_drewN (bRf wr) _) _) _)) (by rw [HLn.out.1]; simp <;> omega) (by rw [HLn.out.1]; unfold maxLen; simp <;> omega) (by simp <;> omega)); rintro v3 w3 ⟨ho3, hbl3, hloc3, hg3⟩; rw [List.nil_append] at ho3; have HB3 := Lib.hid (show Below wr.heap.size wr w3 from Below.trans (by first | exact bAl (below_drewN (bRf wr) _) _ | exact bAl (bAl (below_drewN (bRf wr) _) _) _) hbl3); have y3 := (HB3.out.cell (p := ⟨gy, 0, none⟩) hgy2).trans y1; have HO3 := Lib.hid ho3; have hz3 : wr.heap.size ≤ w3.heap.size := HB3.out.size; (first | (have HL3 := Lib.hid (Blk.grown (show Blk _ wr.heap.size 3 #[.int .i64 x] from (Blk.at (by simp)).alloc _) hg3 (by simp [Value.ownBlock]))) | (have HL3 := Lib.hid (Blk.grown (show Blk _ (wr.heap.size + 1) 3 #[.int .i64 x] from Blk.at (by simp)) hg3 (by simp [Value.ownBlock]))) | (have HL3 := Lib.hid True.intro)); clear ho3 hbl3 hloc3 hg3))
                      | ((apply app_step (s := .tmp 60) (x := .tmp 63) (t := 58) (v := v3) (u := .slice (some ⟨_, 0, none⟩) 1 1); (try case hgd => exact rfl); (try case ho => exact rfl); (try case hs => exact rfl); (try case hx => exact rfl); (case hrun => exact run_app_Pn (P := Try.prog) intPlain 58 58 wr.heap.size 3 (.int .i64 0) 8 Try.underlying58 infoInt rfl (by decide) v3 (acc.take (m + 1)) [x] _ _ 1 rfl (by first | exact HO3.out | exact HO3.out.alloc _) (by first | exact intLit HL3.out HX.out.2.2.2.2 | exact intLit (Blk.at rfl) HX.out.2.2.2.2) (by rw [HLn.out.1]; simp <;> omega) (by rw [HLn.out.1]; unfold maxLen; simp <;> omega) (by first | omega | (simp; omega))); rintro v4 w4 ⟨ho4, hbl4, hloc4, hg4⟩; have HB4 := Lib.hid (show Below wr.heap.size wr w4 from HB3.out.trans (by first | exact hbl4 | exact Below.trans ((Below.refl _ _).alloc hz3 _) hbl4)); have y4 := (HB4.out.cell (p := ⟨gy, 0, none⟩) hgy2).trans y1; have HO4 := Lib.hid ho4; have hz4 : wr.heap.size ≤ w4.heap.size := HB4.out.size; clear ho4 hbl4 hloc4 hg4))
                      | ((apply app_step (s := .tmp 64) (x := .tmp 67) (t := 58) (v := v4) (u := .slice (some ⟨g3, m + 1, none⟩) (acc.length - (m + 1)) (c3 - (m + 1))); (try case hgd => exact rfl); (try case ho => exact rfl); (try case hs => exact rfl); (try case hx => exact rfl); (case hrun => exact run_app_Pn (P := Try.prog) intPlain 58 58 wr.heap.size 3 (.int .i64 0) 8 Try.underlying58 infoInt rfl (by decide) v4 ((acc.take (m + 1)) ++ [x]) (acc.drop (m + 1)) _ (c3 - (m + 1)) (acc.length - (m + 1)) (by rw [HLn.out.2]) HO4.out (hSC.below HB4.out) (by rw [List.length_append, HLn.out.1, HLn.out.2]; simp <;> omega) (by rw [List.length_append, HLn.out.1, HLn.out.2]; unfold maxLen; simp <;> omega) (by omega)); rintro v5 w5 ⟨ho5, hbl5, hloc5, hg5⟩; have HB5 := Lib.hid (show Below wr.heap.size wr w5 from HB4.out.trans hbl5); have y5 := (HB5.out.cell (p := ⟨gy, 0, none⟩) hgy2).trans y1; have HO5 := Lib.hid ho5; clear ho5 hbl5 hloc5 hg5)))
                  all_goals
                    go_wp2_with fail
                    have hl5 : 0 < ((acc.take (m + 1)) ++ [x] ++ (acc.drop (m + 1))).length := by simp <;> omega
                    obtain ⟨A5, c5, rfl⟩ := HO5.out.form
                    obtain ⟨g5, rfl⟩ := HO5.out.block hl5
                    go_roundg (all.length - (k + 1))
                    case measure => omega
                    case rel =>
                      have hins : (acc.take (m + 1)) ++ [x] ++ (acc.drop (m + 1)) = insK acc x := HIn.out
                      have hb5 := HX.out.1.trans ((hb2.mono hwx).trans (HB5.out.mono (by omega)))
                      refine ⟨k + 1, insK acc x, g5, c5, by omega, by go_num, rfl, by have := insK_len acc x; omega, ?_, hP2.out.below ?_, HH.out.1.below hb5, by first | (rw [← hins]; done) | (rw [← hins]; simp), ?_, bTr HH.out.2.2 hb5⟩
                      · show insK acc x = _
                        rw [List.take_succ_eq_append_getElem hlt, List.map_append, List.foldl_append, ← hAcc.out, HX.out.2.2.2.1, HO.out]; rfl
                      · exact bTr hb2 HB5.out
                      · rw [← hins]; exact HO5.out.mono (by omega)
              | false =>
                go_wp2_with fail
                go_quiet (fail)
                go_wp2_with fail
                go_quiet (fail)
                go_wp2_with fail
                go_roundg (all.length - (k + 1))
                case measure => omega
                case rel =>
                  have hins : insK acc x = acc := by
                    have h := hnK.out
                    rw [posK, if_neg (by rw [getD_at hml, ← HA.out]; exact of_decide_eq_false hq)] at h
                    unfold insK; rw [← HK.out, ← h, if_neg]
                    rw [Nat.add_sub_cancel, getD_at hml, ← HA.out]
                    simpa using hq2
                  refine ⟨k + 1, acc, g3, c3, by omega, by go_num, rfl, by omega, ?_, hP2.out.below (by first | exact below_drewN hb2 _ | exact below_drewN (below_drewN hb2 _) _), HH.out.1.below (HX.out.1.trans (Below.mono (by first | exact below_drewN hb2 _ | exact below_drewN (below_drewN hb2 _) _) hwx)), rfl, HX.out.2.1.below (by first | exact below_drewN hb2 _ | exact below_drewN (below_drewN hb2 _) _), bTr HH.out.2.2 (HX.out.1.trans (Below.mono (by first | exact below_drewN hb2 _ | exact below_drewN (below_drewN hb2 _) _) hwx))⟩
                  show acc = _
                  rw [List.take_succ_eq_append_getElem hlt, List.map_append, List.foldl_append, ← hAcc.out]
                  rw [HX.out.2.2.2.1, HO.out] at hins
                  exact hins.symm
    · have e : k = all.length := by omega
      subst e
      have hr : acc = r := by rw [hAcc.out, R.out.1, List.take_length]
      subst hr
      have HO := Lib.hid (And.intro hown hbel); clear hown hbel hsa
      go_wp2_with fail
      go_ret
      exact ⟨_, c3, rfl, HO.out.1.sf.2.sa, HO.out.2⟩
end Go.Proofs.Ytblcmajhdndmfaa
