/- Contracts: values at paths, in the program. -/
import Derived.Test.YtblcmajhdndmfaaAt
import Derived.Test.YtblcmajhdndmfaaCopy
namespace Go.Proofs.Ytblcmajhdndmfaa
open Go.RowKit
set_option linter.unusedVariables false
set_option maxRecDepth 100000

theorem implAtPath_any (v : GVal) (p : List GStep) (A Ap : Option Addr) (c cp : Nat) (w : World) (hn : bulkVal v ≤ 1048576) (hv : VInt v) (hx : SA w v.l A c) (hp : SA w p Ap cp) :
    Calls Try.prog 78 #[.agg #[.int .i64 v.kind, .int .i64 v.n, .int .i64 v.x, .string v.s, .slice A v.l.length c], .slice Ap p.length cp] w (RetVB w (atG v p)) := by
  obtain ⟨o, ho⟩ : ∃ o, o = atG v p := ⟨_, rfl⟩
  rw [← ho]
  have O := Lib.hid ho; clear ho
  have hlp : p.length ≤ 9223372036854775807 := by have := hp.len; unfold maxLen at this; omega
  have b0 := Lib.hid (bAl (bAl (bRf w) (.cells #[.int .i64 v.kind, .int .i64 v.n, .int .i64 v.x, .string v.s, .slice A v.l.length c] 40)) (.cells #[.int .i64 0, .int .i64 0, .int .i64 0, .string .empty, .slice none 0 0] 40))
  have E := Lib.hid (And.intro hx hp); clear hx hp
  have HI := Lib.hid hv; clear hv
  go_enter Try.func78, Try.ntmps78
  go_wp2_with fail
  go_loopg [11] p.length (fun gk i wr => ∃ (k : Nat) (x : GVal) (Ax : Option Addr) (cx : Nat), k ≤ p.length ∧ i = .int .i64 k ∧ gk = p.length - k ∧ Hid (atG v (p.take k) = some x) ∧ VInt x ∧
    Blk wr w.heap.size 40 #[.int .i64 x.kind, .int .i64 x.n, .int .i64 x.x, .string x.s, .slice Ax x.l.length cx] ∧
    Blk wr (w.heap.size + 1) 40 #[.int .i64 0, .int .i64 0, .int .i64 0, .string .empty, .slice none 0 0] ∧
    SS wr (fun b => b < w.heap.size) x.l Ax cx ∧ Below w.heap.size w wr)
  case atStart =>
    exact ⟨0, v, A, c, by omega, rfl, by omega, rfl, HI.out, (Blk.at rfl).alloc _, Blk.at (by simp), SS.keep E.out.1 (fun b h => b0.out.block b h) (fun b h => h), b0.out⟩
  case round =>
    obtain ⟨k, x, Ax, cx, hk, rfl, rfl, hat, hvi, hP0, hP1, hsx, hbel⟩ := hrel
    have HB0 := Lib.hid (show bulkVal x ≤ 1048576 from Nat.le_trans (bulk_atG _ hat.out) hn)
    have hz0 : w.heap.size < wr.heap.size := hP0.lt
    have hz1 : w.heap.size + 1 < wr.heap.size := hP1.lt
    by_cases hlt : k < p.length
    · obtain ⟨b, off, rfl, hb, hI, k0, k1⟩ := (E.out.2.below hbel).step_at hlt
      obtain ⟨p0, p1, p2, p3, p4⟩ := hP0.c5
      go_wp2_with fail
      refine (index_any x p[k] Ax cx _ (Nat.le_trans (bulk_len x) HB0.out) hI).mono ?_
      rintro e w2 ⟨rfl, hb2⟩
      have R0 := (hP0.alloc (.cells #[.int .i64 p[k].at_, .bool p[k].name] 109)).below hb2
      have R1 := (hP1.alloc (.cells #[.int .i64 p[k].at_, .bool p[k].name] 109)).below hb2
      have B2 := Lib.hid (bTr (bAl (bRf wr) _) hb2)
      have hz2 : w.heap.size + 1 < w2.heap.size := R1.lt
      have hz2' : w.heap.size < w2.heap.size := R0.lt
      clear hb2 p0 p1 p2 p3 p4 k0 k1 hP0 hP1
      rcases placeI_range x p[k] with hpl | ⟨i, hpl, hi⟩
      · have hst := stepG_none hpl
        rw [hpl]
        have hO : o = none := by
          rw [O.out, ← List.take_append_drop (k + 1) p]
          exact atG_none_more _ _ _ (by rw [List.take_succ_eq_append_getElem hlt, atG_snoc, hat.out]; simpa using hst)
        have O' := Lib.hid hO; clear hO
        obtain ⟨r0, r1, r2, r3, r4⟩ := R1.c5
        have f0 := R1.frozen 0
        have f1 := R1.frozen 1
        have f2 := R1.frozen 2
        have f3 := R1.frozen 3
        have f4 := R1.frozen 4
        clear R0 R1
        go_wp2_with fail
        refine bodyPost_ret (v := valB (zv none) none 0 false) (by simp [results, valB, zv, Try.results78, go_sem, *] <;> rfl) rfl ?_
        rw [O'.out]
        refine ⟨none, 0, rfl, zvSF _ _, zvInt, ?_⟩
        refine Below.setCell (Below.setCell (Below.setCell (Below.setCell (Below.setCell (bTr hbel B2.out) ?_ _) ?_ _) ?_ _) ?_ _) ?_ _
        all_goals (simp; try omega)
      · have hst := Lib.hid (stepG_some hpl hi)
        rw [hpl]
        have hs2 := SS.keep hsx (S' := fun b => b < w.heap.size) (fun b h => B2.out.block b (by omega)) (fun b h => h)
        have HS2 := Lib.hid hs2
        have hs2' : SA w2 x.l Ax cx := SS.keep hs2 (fun b h => rfl) (fun b h => by omega)
        obtain ⟨r0, r1, r2, r3, r4⟩ := R0.c5
        have f0 := R0.frozen 0
        have f1 := R0.frozen 1
        have f2 := R0.frozen 2
        have f3 := R0.frozen 3
        have f4 := R0.frozen 4
        obtain ⟨F, ⟨hl1, hl2, hl3⟩, hF⟩ := hs2
        rcases hl3 with ⟨he, _⟩ | ⟨b1, off1, F', xs, rfl, rfl, hel, hcs⟩
        · rw [he] at hi; simp at hi
        · obtain ⟨F1, cs, hr, hsub, hxs⟩ := hel.get i hi
          obtain ⟨A3, c3, rfl, hI3, hs3⟩ := rpVal_iff.1 hr
          have hcs' := hcs.sub hxs
          obtain ⟨k0, k1, k2, k3, k4⟩ := And.intro hcs'.c0 (And.intro hcs'.c1 (And.intro hcs'.c2 (And.intro hcs'.c3 hcs'.c4)))
          have hbb : b1 < w.heap.size := hF b1 (List.mem_cons_self ..)
          have HS3 := Lib.hid (show SS w2 (fun b => b < w.heap.size) x.l[i].l A3 c3 from ⟨F1, hs3, fun b hb => hF b (List.mem_cons_of_mem _ (hsub b hb))⟩)
          have n1 : b1 ≠ w.heap.size := by omega
          have n1' : w.heap.size ≠ b1 := by omega
          clear hel hcs hcs' hr hxs hsub hs3 hF hs2' hsx
          simp only [Rep.wd] at k0 k1 k2 k3 k4
          go_wp2_with fail
          go_roundg (p.length - (k + 1))
          case measure => omega
          case rel =>
            refine ⟨k + 1, x.l[i], A3, c3, by omega, by go_num, rfl, ?_, hI3, ?_, ?_, ?_, ?_⟩
            · exact (show atG v (p.take (k + 1)) = some x.l[i] by rw [List.take_succ_eq_append_getElem hlt, atG_snoc, hat.out]; simpa using hst.out)
            · exact ((((R0.set_ 0 _).set_ 1 _).set_ 2 _).set_ 3 _).set_ 4 _
            · exact ((((R1.far (by simp <;> omega) _).far (by simp <;> omega) _).far (by simp <;> omega) _).far (by simp <;> omega) _).far (by simp <;> omega) _
            · refine SS.keep HS3.out (fun b hb => ?_) (fun b h => h)
              rw [Below.heap_setCell _ _ _ _ (by simp; omega), Below.heap_setCell _ _ _ _ (by simp; omega), Below.heap_setCell _ _ _ _ (by simp; omega), Below.heap_setCell _ _ _ _ (by simp; omega), Below.heap_setCell _ _ _ _ (by simp; omega)]
            · refine Below.setCell (Below.setCell (Below.setCell (Below.setCell (Below.setCell (bTr hbel B2.out) ?_ _) ?_ _) ?_ _) ?_ _) ?_ _
              all_goals (simp; try omega)
    · have e : k = p.length := by omega
      subst e
      have hO : o = some x := by rw [O.out, ← hat.out, List.take_length]
      have O' := Lib.hid hO; clear hO
      have hsa : SA wr x.l Ax cx := SS.keep hsx (fun b h => rfl) (fun b h => by omega)
      have HV := Lib.hid (And.intro hvi hbel)
      obtain ⟨p0, p1, p2, p3, p4⟩ := hP0.c5
      go_wp2_with fail
      refine (copyI_ind x Ax cx _ HB0.out hvi hsa).mono ?_
      rintro e w2 ⟨A2, c2, rfl, hsf, hb2⟩
      have R1 := hP1.below hb2
      obtain ⟨r0, r1, r2, r3, r4⟩ := R1.c5
      have hz2 : w.heap.size + 1 < w2.heap.size := R1.lt
      have f0 := R1.frozen 0
      have f1 := R1.frozen 1
      have f2 := R1.frozen 2
      have f3 := R1.frozen 3
      have f4 := R1.frozen 4
      have HS := Lib.hid (And.intro hsf (bTr hbel hb2)); clear hsf hb2 hsx hvi hbel hsa
      go_wp2_with fail
      refine bodyPost_ret (v := valB (zv (some x)) A2 c2 true) (by simp [results, valB, zv, Try.results78, go_sem, *] <;> rfl) rfl ?_
      rw [O'.out]
      refine ⟨A2, c2, rfl, ?_, HV.out.1, ?_⟩
      · refine SF.mono (base := wr.heap.size) ?_ (by omega)
        refine SF.set (SF.set (SF.set (SF.set (SF.set HS.out.1 ?_ _) ?_ _) ?_ _) ?_ _) ?_ _
        all_goals (simp; try omega)
      · refine Below.setCell (Below.setCell (Below.setCell (Below.setCell (Below.setCell HS.out.2 ?_ _) ?_ _) ?_ _) ?_ _) ?_ _
        all_goals (simp; try omega)
end Go.Proofs.Ytblcmajhdndmfaa
