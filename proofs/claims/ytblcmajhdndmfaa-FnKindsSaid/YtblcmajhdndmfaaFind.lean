/- Contracts: the paths of the values of a kind, in the reference. -/
import Derived.Test.YtblcmajhdndmfaaPaths2
import Derived.Test.YtblcmajhdndmfaaOwnS
namespace Go.Proofs.Ytblcmajhdndmfaa
open Go.RowKit
set_option linter.unusedVariables false
set_option maxRecDepth 100000

/-- A slice that can be read, and nothing old turned. -/
def RetSA {α : Type} [Rep α] (w : World) (l : List α) (e : Ending) (w' : World) : Prop := ∃ A c, e = .returned (.slice A l.length c) ∧ SA w' l A c ∧ Below w.heap.size w w'

/-- .. whose blocks are new, too. -/
def RetSS {α : Type} [Rep α] (w : World) (l : List α) (e : Ending) (w' : World) : Prop := ∃ A c, e = .returned (.slice A l.length c) ∧ SS w' (fun b => w.heap.size ≤ b ∧ b < w'.heap.size) l A c ∧ Below w.heap.size w w'
theorem RetSS.sa {α : Type} [Rep α] {w w' : World} {l : List α} {e : Ending} (h : RetSS w l e w') : RetSA w l e w' :=
  let ⟨A, c, h1, ⟨F, h2, h3⟩, h4⟩ := h; ⟨A, c, h1, ⟨F, h2, fun b hb => (h3 b hb).2⟩, h4⟩

theorem SA.path_at {w : World} {l : List (List GStep)} {A : Option Addr} {c : Nat} (h : SA w l A c) {i : Nat} (hi : i < l.length) :
    ∃ b off A' c', A = some ⟨b, off, none⟩ ∧ b < w.heap.size ∧ SA w l[i] A' c' ∧ w.cell? ⟨b, off + i, none⟩ = some (.slice A' l[i].length c') := by
  obtain ⟨b, off, cs, rfl, hb, hr, hc⟩ := h.at hi
  obtain ⟨A', c', rfl, hs⟩ := hr.sa
  exact ⟨b, off, A', c', rfl, hb, hs, by simpa [Rep.wd] using hc.c0⟩
theorem SS.path_at {w : World} {S : Nat → Prop} {l : List (List GStep)} {A : Option Addr} {c : Nat} (h : SS w S l A c) {i : Nat} (hi : i < l.length) :
    ∃ b off A' c', A = some ⟨b, off, none⟩ ∧ S b ∧ SS w S l[i] A' c' ∧ w.cell? ⟨b, off + i, none⟩ = some (.slice A' l[i].length c') := by
  obtain ⟨F, ⟨h1, h2, h3⟩, hF⟩ := h
  rcases h3 with ⟨rfl, _⟩ | ⟨b, off, F', xs, hA, rfl, he, hc⟩
  · simp at hi
  · obtain ⟨F1, cs, ⟨A', c', rfl, hs⟩, hsub, hx⟩ := he.get i hi
    have h0 := (hc.sub hx).c0
    exact ⟨b, off, A', c', hA, hF b (List.mem_cons_self ..), ⟨F1, hs, fun b hb => hF b (List.mem_cons_of_mem _ (hsub b hb))⟩, by simpa [Rep.wd] using h0⟩
theorem SS.rs {α : Type} [Rep α] {w : World} {S : Nat → Prop} {l : List α} {A : Option Addr} {c : Nat} (h : SS w S l A c) : RS w S l [.slice A l.length c] :=
  let ⟨F, h1, h2⟩ := h; ⟨F, ⟨A, c, rfl, h1⟩, h2⟩

theorem specAllPaths_any (v : GVal) (A : Option Addr) (c : Nat) (w : World) (hn : bulkVal v ≤ 1048576) (hx : SA w v.l A c) :
    Calls Try.prog 74 #[.agg #[.int .i64 v.kind, .int .i64 v.n, .int .i64 v.x, .string v.s, .slice A v.l.length c]] w (RetS w (pathsG [] v)) := by
  have E := Lib.hid hx; clear hx
  go_enter Try.func74, Try.ntmps74
  go_wp2_with (go_at_call 102; (refine (pathsS_ind v [] A (some ⟨w.heap.size + 1, 0, none⟩) c 0 _ hn (by simp; omega) (E.out.below (bAl (bAl (bRf w) _) _)) (OwnF.sf (OwnF.lit0' _ _ 0 _ (by simp) (by omega))).2.sa).mono ?_; rintro e w1 ⟨A1, c1, rfl, hs1, hb1⟩; have HS1 := Lib.hid (And.intro hs1 hb1); clear hs1 hb1))
  go_ret
  exact ⟨A1, c1, rfl, HS1.out.1.mono (by simp; omega), bTr (bAl (bAl (bRf w) _) _) HS1.out.2⟩

theorem implAllPaths_any (v : GVal) (A : Option Addr) (c : Nat) (w : World) (hn : bulkVal v ≤ 1048576) (hx : SA w v.l A c) :
    Calls Try.prog 76 #[.agg #[.int .i64 v.kind, .int .i64 v.n, .int .i64 v.x, .string v.s, .slice A v.l.length c]] w fun e w' => ∃ A' c', e = .returned (.slice A' (pathsG [] v).length c') ∧ OwnF w' (w.heap.size + 1) 79 (.slice A' (pathsG [] v).length c') (pathsG [] v) ∧ Below w.heap.size w w' := by
  have b0 := bAl (bRf w) (.cells #[.int .i64 v.kind, .int .i64 v.n, .int .i64 v.x, .string v.s, .slice A v.l.length c] 40)
  have hc := pathsI_ind v [] A none c 0 (.slice none 0 0) [] (w.heap.size + 1) _ hn (by simp; omega) (by simp; omega) (SS.keep hx (S' := fun b => b < w.heap.size + 1) (fun b h => b0.block b h) (fun b h => by omega)) ⟨[], ⟨by simp, by simp, .inl ⟨rfl, rfl, fun _ => rfl⟩⟩, by simp⟩ (OwnF.nil_ (w.alloc (.cells #[.int .i64 v.kind, .int .i64 v.n, .int .i64 v.x, .string v.s, .slice A v.l.length c] 40)) _ _) (by simp)
  have HC := Lib.hid hc; clear hc
  have B0 := Lib.hid b0; clear b0
  clear hx
  go_enter Try.func76, Try.ntmps76
  go_wp2_with (go_at_call 104; (refine HC.out.mono ?_; rintro e w1 ⟨r1, rfl, ho, hg, hl⟩; have HO := Lib.hid (And.intro ho hg); clear ho hg hl))
  obtain ⟨A1, c1, rfl⟩ := HO.out.1.form
  go_ret
  refine ⟨A1, c1, rfl, HO.out.1, ?_⟩
  have hg := HO.out.2
  exact B0.out.trans ⟨hg.os, hg.tape, hg.output, hg.size, fun k hk => hg.block k (by simp; omega) (by simp [Value.ownBlock])⟩

theorem kindAt_zv (v : GVal) (p : List GStep) : kindAt v p = (zv (atG v p)).kind := by
  unfold kindAt zv
  cases atG v p <;> rfl

set_option maxHeartbeats 2000000 in
theorem specFindS_any (v : GVal) (kind : Int) (A : Option Addr) (c : Nat) (w : World) (hn : bulkVal v ≤ 1048576) (hv : VInt v) (hx : SA w v.l A c) :
    Calls Try.prog 33 #[.agg #[.int .i64 v.kind, .int .i64 v.n, .int .i64 v.x, .string v.s, .slice A v.l.length c], .int .i64 kind] w (RetSS w (findG v kind)) := by
  obtain ⟨r, hr⟩ : ∃ r, r = findG v kind := ⟨_, rfl⟩
  rw [← hr]
  unfold findG at hr
  have hall : (pathsG [] v).length ≤ 1048577 := by have := pathsG_len v []; omega
  obtain ⟨all, hal⟩ : ∃ all, all = pathsG [] v := ⟨_, rfl⟩
  rw [← hal] at hr hall
  have R := Lib.hid (And.intro hr hal); clear hr
  have HI := Lib.hid hv; clear hv
  have b0 := Lib.hid (bAl (bAl (bRf w) (.cells #[.int .i64 v.kind, .int .i64 v.n, .int .i64 v.x, .string v.s, .slice A v.l.length c] 40)) (.cells #[] 79))
  have E := Lib.hid (And.intro hx (hx.below b0.out)); clear hx
  have P0 := Lib.hid ((Blk.new w 40 #[.int .i64 v.kind, .int .i64 v.n, .int .i64 v.x, .string v.s, .slice A v.l.length c]).alloc (.cells #[] 79))
  have O0 := Lib.hid (show OwnS (α := List GStep) _ (w.heap.size + 1) 79 (.slice (some ⟨w.heap.size + 1, 0, none⟩) 0 0) [] (fun _ => False) by have := OwnS.lit0 (α := List GStep) (w.alloc (.cells #[.int .i64 v.kind, .int .i64 v.n, .int .i64 v.x, .string v.s, .slice A v.l.length c] 40)) 79 (w.heap.size + 1) (by simp) (fun _ => False); simp only [World.size_alloc] at this; exact this)
  go_enter Try.func33, Try.ntmps33
  go_wp2_with fail
  refine (specAllPaths_any v A c _ hn E.out.2).mono ?_
  rintro e w1 ⟨A1, c1, rfl, hs1, hb1⟩
  rw [← hal] at hs1 ⊢
  clear hal
  have P1 := Lib.hid (P0.out.below hb1)
  have O1 := Lib.hid (O0.out.keep hb1 (fun b h => h.elim))
  have B1 := Lib.hid (bTr b0.out hb1)
  have hz1 : w.heap.size + 2 ≤ w1.heap.size := by have := hb1.size; simp at this; omega
  have hss : SS w1 (fun b => w.heap.size + 2 ≤ b ∧ b < w1.heap.size) all A1 c1 := by
    obtain ⟨F, h1, h2⟩ := hs1
    exact ⟨F, h1, fun b hb => ⟨by have := (h2.2 b hb).1; simp at this; omega, (h2.2 b hb).2.lt⟩⟩
  have S1 := Lib.hid hss
  have hla : all.length ≤ 9223372036854775807 := by omega
  clear hs1 hb1 hss
  go_wp2_with fail
  go_loopg [5, 7] all.length (fun gk rv i wr => ∃ k : Nat, k ≤ all.length ∧ i = .int .i64 k ∧ gk = all.length - k ∧
    Blk wr w.heap.size 40 #[.int .i64 v.kind, .int .i64 v.n, .int .i64 v.x, .string v.s, .slice A v.l.length c] ∧ SS wr (fun b => w.heap.size + 2 ≤ b ∧ b < w1.heap.size) all A1 c1 ∧
    OwnS wr (w.heap.size + 1) 79 rv ((all.take k).filter fun p => kindAt v p = kind) (fun b => w.heap.size + 2 ≤ b ∧ b < w1.heap.size) ∧ (∀ g, rv.ownBlock = some g → g < w.heap.size + 2 ∨ w1.heap.size ≤ g) ∧ Below w.heap.size w wr ∧ w1.heap.size ≤ wr.heap.size)
  case atStart =>
    exact ⟨0, by omega, rfl, by omega, P1.out, S1.out, O1.out.mono (fun b h => h.elim), fun g hg => .inl (by simp [Value.ownBlock] at hg; omega), B1.out, Nat.le_refl _⟩
  case round =>
    obtain ⟨k, hk, rfl, rfl, hP0, hsa, hown, hloc, hbel, hzw⟩ := hrel
    have hz0 := hP0.lt
    by_cases hlt : k < all.length
    · obtain ⟨b, off, Ap, cp, rfl, hb, hsp, k0⟩ := hsa.path_at hlt
      obtain ⟨p0, p1, p2, p3, p4⟩ := hP0.c5
      have hi1 : (k : Int) < all.length := by omega
      have hi2 : (0 : Int) ≤ k := by omega
      have HSA := Lib.hid (show SA wr v.l A c from E.out.1.below hbel)
      have HSP := Lib.hid (show SA wr all[k] Ap cp from SS.keep hsp (fun _ _ => rfl) (fun b h => by have := h.2; omega))
      have n1 : w.heap.size ≠ wr.heap.size := by omega
      have n2 : b ≠ wr.heap.size := by omega
      have n1' : wr.heap.size ≠ w.heap.size := by omega
      have n2' : wr.heap.size ≠ b := by omega
      have hbw : b < wr.heap.size := by omega
      have HH := Lib.hid (And.intro hsa (And.intro hown (And.intro hloc (And.intro hbel hsp))))
      clear hsa hown hloc hbel hsp
      obtain ⟨o, ho⟩ : ∃ o, o = atG v all[k] := ⟨_, rfl⟩
      have HO := Lib.hid ho; clear ho
      go_wp2_with fail
      go_cut [8, 9] from 13 to 39 (fun s8 s9 wx => ∃ gy A2 c2, s8 = .pointer (some ⟨gy, 0, none⟩) ∧ s9 = .bool o.isSome ∧ wr.heap.size ≤ gy ∧
        Blk wx gy 40 #[.int .i64 (zv o).kind, .int .i64 (zv o).n, .int .i64 (zv o).x, .string (zv o).s, .slice A2 (zv o).l.length c2] ∧ Below wr.heap.size wr wx)
      case first =>
        go_region_held3 (fun u => u.cell? ⟨w.heap.size, 0, none⟩ = some (.int .i64 v.kind) ∧ u.cell? ⟨w.heap.size, 1, none⟩ = some (.int .i64 v.n) ∧ u.cell? ⟨w.heap.size, 2, none⟩ = some (.int .i64 v.x) ∧ u.cell? ⟨w.heap.size, 3, none⟩ = some (.string v.s) ∧ u.cell? ⟨w.heap.size, 4, none⟩ = some (.slice A v.l.length c) ∧ u.cell? ⟨b, off + k, none⟩ = some (.slice Ap all[k].length cp)) (go_keep)
          (first
            | (go_at_call 60; (first | refine (specAtPath_any v all[k] A Ap c cp _ hn HI.out HSA.out.drew HSP.out.drew).mono ?_ | refine (specAtPath_any v all[k] A Ap c cp _ hn HI.out (HSA.out.below (bAl (bRf wr) _)).drew (HSP.out.below (bAl (bRf wr) _)).drew).mono ?_); (rw [← HO.out]; rintro e w2 ⟨A2, c2, rfl, hsf, hvz, hb2⟩; unfold valB; have HB := Lib.hid (show Below wr.heap.size wr w2 from by first | exact bTr (bRf wr).drew hb2 | exact bTr (bAl (bRf wr) _).drew hb2); obtain ⟨q0, q1, q2, q3, q4⟩ := (hP0.below HB.out).c5; have j0 := (HB.out.cell (p := ⟨b, _, none⟩) hbw).trans k0; obtain ⟨hc2, hf2⟩ := bCell hb2; have hz2 : wr.heap.size ≤ w2.heap.size := HB.out.size; have m1 : w.heap.size ≠ w2.heap.size := (by omega); have m2 : b ≠ w2.heap.size := (by omega); have m1' : w2.heap.size ≠ w.heap.size := (by omega); have m2' : w2.heap.size ≠ b := (by omega); have HS2 := Lib.hid hb2; clear hsf hvz hb2)))
        · go_wp2_with fail
          go_meet
          exact ⟨w2.heap.size, A2, c2, rfl, rfl, hz2, Blk.at rfl, bAl HB.out _⟩
        · go_wp2_with fail
          go_meet
          refine ⟨wr.heap.size, A2, c2, rfl, rfl, Nat.le_refl _, ?_, ?_⟩
          · exact ((((((Blk.new wr _ _).drew.below HS2.out).set_ 0 _).set_ 1 _).set_ 2 _).set_ 3 _).set_ 4 _
          · refine Below.setCell (Below.setCell (Below.setCell (Below.setCell (Below.setCell HB.out ?_ _) ?_ _) ?_ _) ?_ _) ?_ _
            all_goals (simp; try omega)
      case rest =>
        obtain ⟨gy, A2, c2, rfl, rfl, hgy, hY, hbx⟩ := hcut
        have y0 := hY.c5.1
        have HX := Lib.hid hbx
        have hwx : wr.heap.size ≤ wc.heap.size := hbx.size
        have j0 := (hbx.cell (p := ⟨b, _, none⟩) hbw).trans k0
        have P2 := Lib.hid (hP0.below hbx)
        have hO2 := Lib.hid (show OwnS wc (w.heap.size + 1) 79 u5 ((all.take k).filter fun p => kindAt v p = kind) (fun b => w.heap.size + 2 ≤ b ∧ b < w1.heap.size) from HH.out.2.1.keep hbx (fun b h => by omega))
        have hsx := Lib.hid (show SS wc (fun b => w.heap.size + 2 ≤ b ∧ b < w1.heap.size) all (some ⟨b, off, none⟩) c1 from SS.keep HH.out.1 (fun b h => hbx.block b (by omega)) (fun _ h => h))
        have hpx := Lib.hid (show SS wc (fun b => w.heap.size + 2 ≤ b ∧ b < w1.heap.size) all[k] Ap cp from SS.keep HH.out.2.2.2.2 (fun b h => hbx.block b (by omega)) (fun _ h => h))
        clear hbx
        have hfl : ((all.take k).filter fun p => kindAt v p = kind).length ≤ k := Nat.le_trans (List.length_filter_le _ _) (by rw [List.length_take]; omega)
        have HFL := Lib.hid hfl; clear hfl
        have hkv : kindAt v all[k] = (zv o).kind := by rw [kindAt_zv, HO.out]
        have HKV := Lib.hid hkv; clear hkv
        cases hq : ((zv o).kind == kind) with
        | true =>
          have hfs : (all.take (k + 1)).filter (fun p => kindAt v p = kind) = (all.take k).filter (fun p => kindAt v p = kind) ++ [all[k]] := by
            rw [List.take_succ_eq_append_getElem hlt, List.filter_append]
            congr 1
            simp [HKV.out]; simpa using hq
          have HFS := Lib.hid hfs; clear hfs
          go_wp2_with (at_builtin; (refine app_list rfl _ _ 54 rfl (v := u5) (u := .slice (some ⟨wc.heap.size, 0, none⟩) 1 1) (by rfl) (by rfl) (run_app1_S 54 _ (w.heap.size + 1) 79 (.agg #[.slice none 0 0]) 24 Try.underlying54 infoPath rfl (by decide) u5 _ all[k] [.slice Ap all[k].length cp] _ _ (fun b => w.heap.size + 2 ≤ b ∧ b < w1.heap.size) (hO2.out.keep (bAl (bRf wc) _) (fun b h => by omega)) (fun b h => ⟨by simp; omega, fun e => by have := HH.out.2.2.1 b e; omega⟩) (RS.keep (SS.rs hpx.out) (fun b h => (bAl (bRf wc) _).block b (by omega)) (fun b h => h)) (cells_at [_] rfl) (by have := HFL.out; omega) (by have := HFL.out; unfold maxLen; omega) (by simp; omega)) ?_; rintro r5 w5 ⟨ho5, hbl5, hlc5, hg5⟩; rw [← HFS.out] at ho5; have HO5 := Lib.hid (And.intro ho5 (And.intro hbl5 (And.intro hlc5 hg5))); clear ho5 hbl5 hlc5 hg5))
          go_roundg (all.length - (k + 1))
          case measure => omega
          case rel =>
            have hgne : ∀ b, w.heap.size + 2 ≤ b → b < w1.heap.size → u5.ownBlock ≠ some b := fun b h1 h2 e => by have := HH.out.2.2.1 b e; omega
            refine ⟨k + 1, by omega, by go_num, rfl, (P2.out.alloc _).keepB HO5.out.2.1 (by omega), ?_, HO5.out.1, ?_, ?_, ?_⟩
            · exact SS.keep hsx.out (fun b h => by rw [HO5.out.2.2.2.block b (by simp; omega) (fun e => hgne b h.1 h.2 e.symm)]; exact (bAl (bRf wc) _).block b (by omega)) (fun _ h => h)
            · intro g hg
              rcases HO5.out.2.2.1 with h | h
              · exact HH.out.2.2.1 g (h ▸ hg)
              · rw [h] at hg; injection hg with hg; right; simp at hg; omega
            · exact (bAl (bTr HH.out.2.2.2.1 HX.out) _).trans (HO5.out.2.1.mono (by omega))
            · have := HO5.out.2.1.size; simp at this; omega
        | false =>
          have hfs : (all.take (k + 1)).filter (fun p => kindAt v p = kind) = (all.take k).filter (fun p => kindAt v p = kind) := by
            rw [List.take_succ_eq_append_getElem hlt, List.filter_append]
            have : ¬ ((zv o).kind = kind) := by simpa using hq
            simp [HKV.out, this]
          have HFS := Lib.hid hfs; clear hfs
          go_wp2_with fail
          go_roundg (all.length - (k + 1))
          case measure => omega
          case rel =>
            exact ⟨k + 1, by omega, by go_num, rfl, P2.out, hsx.out, HFS.out ▸ hO2.out, HH.out.2.2.1, bTr HH.out.2.2.2.1 HX.out, by omega⟩
    · have e : k = all.length := by omega
      subst e
      rw [List.take_length] at hown
      obtain ⟨Av, cv, rfl⟩ := hown.form
      have HO := Lib.hid (And.intro hown hbel); clear hown hbel hsa
      go_wp2_with fail
      go_ret
      have hg := HO.out.1.own_lt
      have hss := (HO.out.1.ss wr (fun b => w.heap.size ≤ b ∧ b < wr.heap.size) (fun b _ => rfl) (fun b h => by
        rcases h with h | h
        · have := hg b h; omega
        · omega)).2
      exact ⟨Av, cv, by rw [R.out.1]; rfl, by rw [R.out.1]; exact hss, HO.out.2⟩
theorem specFind_any (v : GVal) (kind : Int) (A : Option Addr) (c : Nat) (w : World) (hn : bulkVal v ≤ 1048576) (hv : VInt v) (hx : SA w v.l A c) :
    Calls Try.prog 33 #[.agg #[.int .i64 v.kind, .int .i64 v.n, .int .i64 v.x, .string v.s, .slice A v.l.length c], .int .i64 kind] w (RetSA w (findG v kind)) :=
  (specFindS_any v kind A c w hn hv hx).mono fun e w' h => h.sa
end Go.Proofs.Ytblcmajhdndmfaa
