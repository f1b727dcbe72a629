/- Contracts: paths as text, in the program. -/
import Derived.Test.YtblcmajhdndmfaaDoorPathS
namespace Go.Proofs.YtblcmajhdndmfaaDoor
open Go.RowKit
set_option linter.unusedVariables false
set_option maxRecDepth 100000

set_option maxHeartbeats 2000000 in
theorem implPathText_any (v : GVal) (p : List GStep) (A Ap : Option Addr) (c cp : Nat) (w : World) (hn : bulkVal v ≤ 1048576) (hv : VInt v) (hpl : p.length ≤ 1048576) (hx : SA w v.l A c) (hp : SA w p Ap cp) (ht : Tab w) :
    Calls Tryd.prog 48 #[.agg #[.int .i64 v.kind, .int .i64 v.n, .int .i64 v.x, .string v.s, .slice A v.l.length c], .slice Ap p.length cp] w (Ret w (.string (⟨#[36]⟩ ++ pathT v p))) := by
  obtain ⟨r, hr⟩ : ∃ r, r = ⟨#[36]⟩ ++ pathT v p := ⟨_, rfl⟩
  rw [← hr]
  have R := Lib.hid hr; clear hr
  have HT := Lib.hid ht; clear ht
  have b0 := Lib.hid (bAl (bRf w) (.cells #[.int .i64 v.kind, .int .i64 v.n, .int .i64 v.x, .string v.s, .slice A v.l.length c] 41))
  have E := Lib.hid (And.intro hx hp); clear hx hp
  have HI := Lib.hid hv; clear hv
  go_enter Tryd.func48, Tryd.ntmps48
  go_wp2_with fail
  go_loopg [5, 11] p.length (fun gk ss i wr => ∃ (k : Nat) (x : GVal) (Ax : Option Addr) (cx : Nat) (s : ByteArray), k ≤ p.length ∧ ss = .string s ∧ i = .int .i64 k ∧ gk = p.length - k ∧ Hid (s ++ pathT x (p.drop k) = r) ∧ Hid (s.size ≤ 1 + k * 1048600) ∧ Hid (bulkVal x ≤ 1048576) ∧ VInt x ∧
    Blk wr w.heap.size 41 #[.int .i64 x.kind, .int .i64 x.n, .int .i64 x.x, .string x.s, .slice Ax x.l.length cx] ∧
    SS wr (fun b => b < w.heap.size) x.l Ax cx ∧ Below w.heap.size w wr)
  case atStart =>
    refine ⟨0, v, A, c, _, by omega, rfl, rfl, by omega, R.out.symm, ?_, hn, HI.out, Blk.at rfl, SS.keep E.out.1 (fun b h => b0.out.block b h) (fun b h => h), b0.out⟩
    · show _ ≤ _; exact (by decide : (1 : Nat) ≤ 1)
  case round =>
    obtain ⟨k, x, Ax, cx, s, hk, rfl, rfl, rfl, hS, hss, hbx0, hvi, hP0, hsx, hbel⟩ := hrel
    have hz0 : w.heap.size < wr.heap.size := hP0.lt
    by_cases hlt : k < p.length
    · obtain ⟨b, off, rfl, hb, hI, k0, k1⟩ := (E.out.2.below hbel).step_at hlt
      obtain ⟨p0, p1, p2, p3, p4⟩ := hP0.c5
      have hsz : s.size ≤ 1099536834561 := Nat.le_trans hss.out (mul_step hk hpl)
      go_wp2_with fail
      refine (index_any x p[k] Ax cx _ (Nat.le_trans (bulk_len x) hbx0.out) hI).mono ?_
      rintro e w2 ⟨rfl, hb2⟩
      have R0 := (hP0.alloc (.cells #[.int .i64 p[k].at_, .bool p[k].name] 82)).below hb2
      have R1 := (Blk.new wr 82 #[.int .i64 p[k].at_, .bool p[k].name]).below hb2
      have B2 := Lib.hid (bTr (bAl (bRf wr) _) hb2)
      have hz2 : wr.heap.size < w2.heap.size := R1.lt
      have hz2' : w.heap.size < w2.heap.size := R0.lt
      clear hb2 p0 p1 p2 p3 p4 k0 k1 hP0
      rcases placeI_range x p[k] with hpl | ⟨i, hpl, hi⟩
      · have hst := stepG_none hpl
        rw [hpl]
        have hO : s = r := by rw [← hS.out, pathT_drop_none hlt hst, BA.append_empty]
        have O' := Lib.hid hO; clear hO
        clear R0 R1
        go_wp2_with fail
        go_ret
        exact ⟨by rw [O'.out]; rfl, bTr hbel B2.out⟩
      · have hst0 := stepG_some hpl hi
        have hpn := place_ne hst0
        rw [hpl]
        obtain ⟨t, htt⟩ : ∃ t, t = stepT x p[k] := ⟨_, rfl⟩
        have hts : t.size ≤ 1048599 := by have := stepT_size (v := x) hI; have := hbx0.out; rw [htt]; omega
        have z1 : ¬ (9223372036854775807 < s.size + t.size) := by omega
        have hS2 : (s ++ t) ++ pathT x.l[i] (p.drop (k + 1)) = r := by rw [← hS.out, pathT_drop_some hlt hst0, ByteArray.append_assoc, htt]
        have HS2 := Lib.hid (And.intro hS2 (And.intro htt (bulk_step hst0))); clear hS2 htt
        have hst := Lib.hid (And.intro hst0 hpl); clear hst0 hpl
        have hs2 := SS.keep hsx (S' := fun b => b < w.heap.size) (fun b h => B2.out.block b (by omega)) (fun b h => h)
        have HS20 := Lib.hid hs2
        have hs2' : SA w2 x.l Ax cx := SS.keep hs2 (fun b h => rfl) (fun b h => by omega)
        have HSA := Lib.hid hs2'
        clear hs2 hs2' hsx
        obtain ⟨r0, r1, r2, r3, r4⟩ := R0.c5
        obtain ⟨q0, q1⟩ := R1.c2
        go_wp2_with fail
        refine (stepText_any x p[k] Ax cx _ hbx0.out hI HSA.out hpn (HT.out.below (bTr hbel B2.out))).mono ?_
        rintro e w3 ⟨rfl, hb3⟩
        rw [← HS2.out.2.1]
        have hz3 : w2.heap.size ≤ w3.heap.size := hb3.size
        have T0 := R0.below hb3
        have B3 := Lib.hid (bTr B2.out hb3)
        have hs2 := SS.keep HS20.out (S' := fun b => b < w.heap.size) (fun b h => hb3.block b (by omega)) (fun b h => h)
        clear hb3 r0 r1 r2 r3 r4 q0 q1 R0 R1
        obtain ⟨r0, r1, r2, r3, r4⟩ := T0.c5
        have f0 := T0.frozen 0
        have f1 := T0.frozen 1
        have f2 := T0.frozen 2
        have f3 := T0.frozen 3
        have f4 := T0.frozen 4
        obtain ⟨F, ⟨hl1, hl2, hl3⟩, hF⟩ := hs2
        rcases hl3 with ⟨he, _⟩ | ⟨b1, off1, F', xs, rfl, rfl, hel, hcs⟩
        · rw [he] at hi; simp at hi
        · obtain ⟨F1, cs, hr, hsub, hxs⟩ := hel.get i hi
          obtain ⟨A3, c3, rfl, hI3, hs3⟩ := rpVal_iff.1 hr
          have hcs' := hcs.sub hxs
          obtain ⟨k0, k1, k2, k3, k4⟩ := And.intro hcs'.c0 (And.intro hcs'.c1 (And.intro hcs'.c2 (And.intro hcs'.c3 hcs'.c4)))
          have hbb : b1 < w.heap.size := hF b1 (List.mem_cons_self ..)
          have HS3 := Lib.hid (show SS w3 (fun b => b < w.heap.size) x.l[i].l A3 c3 from ⟨F1, hs3, fun b hb => hF b (List.mem_cons_of_mem _ (hsub b hb))⟩)
          have n1 : b1 ≠ w.heap.size := by omega
          have n1' : w.heap.size ≠ b1 := by omega
          clear hel hcs hcs' hr hxs hsub hs3 hF
          simp only [Rep.wd] at k0 k1 k2 k3 k4
          have hz3' : w.heap.size < w3.heap.size := by omega
          go_wp2_with fail
          go_roundg (p.length - (k + 1))
          case measure => omega
          case rel =>
            refine ⟨k + 1, x.l[i], A3, c3, _, by omega, rfl, by go_num, rfl, HS2.out.1, ?_, Nat.le_trans HS2.out.2.2 hbx0.out, hI3, ?_, ?_, ?_⟩
            · have h1 := hss.out
              show (s ++ t).size ≤ _
              rw [ByteArray.size_append]; omega
            · exact ((((T0.set_ 0 _).set_ 1 _).set_ 2 _).set_ 3 _).set_ 4 _
            · refine SS.keep HS3.out (fun b hb => ?_) (fun b h => h)
              rw [Below.heap_setCell _ _ _ _ (by simp; omega), Below.heap_setCell _ _ _ _ (by simp; omega), Below.heap_setCell _ _ _ _ (by simp; omega), Below.heap_setCell _ _ _ _ (by simp; omega), Below.heap_setCell _ _ _ _ (by simp; omega)]
            · refine Below.setCell (Below.setCell (Below.setCell (Below.setCell (Below.setCell (bTr hbel B3.out) ?_ _) ?_ _) ?_ _) ?_ _) ?_ _
              all_goals (simp; try omega)
    · have e : k = p.length := by omega
      subst e
      have hO : s = r := by rw [← hS.out, pathT_end, BA.append_empty]
      have O' := Lib.hid hO; clear hO
      go_wp2_with fail
      go_ret
      exact ⟨by rw [O'.out]; rfl, hbel⟩
end Go.Proofs.YtblcmajhdndmfaaDoor
