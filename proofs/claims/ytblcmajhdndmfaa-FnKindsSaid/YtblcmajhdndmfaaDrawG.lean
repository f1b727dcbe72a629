/- Contracts: the tree that the reference draws from a code. -/
import Derived.Test.YtblcmajhdndmfaaDrawF
namespace Go.Proofs.Ytblcmajhdndmfaa
open Go.RowKit
set_option linter.unusedVariables false
set_option maxRecDepth 100000

theorem RetV.mono {g : Nat} {code : List UInt8} {B B' : Nat} {w : World} {e : Ending} {w' : World} (h : RetV g code B w e w') (hB : B ≤ B') : RetV g code B' w e w' := by
  obtain ⟨v, A, c, h1, h2, h3, h4, h5⟩ := h
  exact ⟨v, A, c, h1, h2, h3, by omega, h5⟩
theorem l6Draw_any (g : Nat) (code : List UInt8) (d : Int) (w : World) (h0 : 0 ≤ d) (h3 : d ≤ 3) (hc : Cur w g code) :
    Calls Try.prog 110 #[.pointer (some ⟨g, 0, none⟩), .int .i64 d] w (RetV g code 40000 w) := by
  have s0 : ∀ w, Cur w g code → Calls Try.prog 110 #[.pointer (some ⟨g, 0, none⟩), .int .i64 (1 - 1)] w (RetV g code 1000 w) := fun w h => l6Draw0_any g code w h
  have s1 : ∀ w, Cur w g code → Calls Try.prog 110 #[.pointer (some ⟨g, 0, none⟩), .int .i64 (2 - 1)] w (RetV g code 4000 w) := fun w h => l6DrawS_any g code 1 1000 4000 w (by omega) (by omega) (by omega) (by omega) s0 h
  have s2 : ∀ w, Cur w g code → Calls Try.prog 110 #[.pointer (some ⟨g, 0, none⟩), .int .i64 (3 - 1)] w (RetV g code 13000 w) := fun w h => l6DrawS_any g code 2 4000 13000 w (by omega) (by omega) (by omega) (by omega) s1 h
  have hd : d = 0 ∨ d = 1 ∨ d = 2 ∨ d = 3 := by omega
  rcases hd with rfl | rfl | rfl | rfl
  · exact (s0 w hc).mono fun _ _ h => h.mono (by omega)
  · exact (s1 w hc).mono fun _ _ h => h.mono (by omega)
  · exact (s2 w hc).mono fun _ _ h => h.mono (by omega)
  · exact l6DrawS_any g code 3 13000 40000 w (by omega) (by omega) (by omega) (by omega) s2 hc

theorem l6Val_any (g : Nat) (code : List UInt8) (w : World) (hc : Cur w g code) :
    Calls Try.prog 86 #[.pointer (some ⟨g, 0, none⟩)] w (RetV g code 40000 w) := by
  have hg := hc.lt
  have B0 := Lib.hid (bAl (bRf w) (.cells #[.int .i64 0, .int .i64 0, .int .i64 0, .string .empty, .slice none 0 0] 40))
  have P0 := Lib.hid (Blk.new w 40 #[.int .i64 0, .int .i64 0, .int .i64 0, .string .empty, .slice none 0 0])
  have HC := Lib.hid (hc.below B0.out); clear hc
  go_enter Try.func86, Try.ntmps86
  go_wp2_with fail
  refine (l1Below_any g code 4 _ (by omega) (by omega) HC.out).mono ?_
  rintro e w1 ⟨k, rfl, hk0, hk1, hce, hcur⟩
  have P1 := Lib.hid (hce.blk P0.out (by omega))
  have H1 := Lib.hid (And.intro ((Ce.of B0.out (by omega)).trans hce) hcur); clear hce hcur
  go_wp2_with fail
  refine (l6Draw_any g code k w1 (by omega) (by omega) H1.out.2).mono ?_
  rintro e w2 ⟨x, Ax, cx, rfl, hsx, hIx, hbx, hkx, hce, hcur⟩
  have P2 := Lib.hid (hce.blk P1.out (by omega))
  have H2 := Lib.hid (And.intro (H1.out.1.trans hce) hcur)
  have hzv1 : w.heap.size < w1.heap.size := P1.out.lt
  have HX := Lib.hid (And.intro hsx (And.intro hIx (And.intro hbx hkx))); clear hce hcur hsx hIx hbx hkx
  have f0 := P2.out.frozen 0
  have f1 := P2.out.frozen 1
  have f2 := P2.out.frozen 2
  have f3 := P2.out.frozen 3
  have f4 := P2.out.frozen 4
  obtain ⟨p0, p1, p2, p3, p4⟩ := P2.out.c5
  have hzz : w.heap.size < w2.heap.size := P2.out.lt
  go_wp2_with fail
  refine bodyPost_ret (v := .agg #[.int .i64 x.kind, .int .i64 x.n, .int .i64 x.x, .string x.s, .slice Ax x.l.length cx]) (by simp [results, Try.results86, go_sem, *] <;> rfl) rfl ?_
  have h5 := Ce.set5 hg H2.out (Nat.le_refl w.heap.size) (.int .i64 x.kind) (.int .i64 x.n) (.int .i64 x.x) (.string x.s) (.slice Ax x.l.length cx)
  exact ⟨x, Ax, cx, rfl, (SF.set5 HX.out.1 hzv1 _ _ _ _ _).mono (Nat.le_of_lt hzv1), HX.out.2.1, HX.out.2.2.1, HX.out.2.2.2, h5.1, h5.2⟩

def RetDV (B : Nat) (w : World) (e : Ending) (w' : World) : Prop :=
  ∃ (v : GVal) (A : Option Addr) (c : Nat), e = .returned (.agg #[.int .i64 v.kind, .int .i64 v.n, .int .i64 v.x, .string v.s, .slice A v.l.length c]) ∧ SF w.heap.size w' v.l A c ∧ VInt v ∧ bulkVal v ≤ B ∧ KOk v ∧ Below w.heap.size w w'
theorem DrawVal_any (code : List UInt8) (A : Option Addr) (c : Nat) (w : World) (hn : code.length ≤ 1048576) (hs : SA w code A c) :
    Calls Try.prog 44 #[.slice A code.length c] w (RetDV 40000 w) := by
  have B0 := Lib.hid (bAl (bRf w) (.cells #[.int .i64 0, .int .i64 0, .int .i64 0, .string .empty, .slice none 0 0] 40))
  have P0 := Lib.hid (Blk.new w 40 #[.int .i64 0, .int .i64 0, .int .i64 0, .string .empty, .slice none 0 0])
  have E := Lib.hid (hs.below B0.out); clear hs
  go_enter Try.func44, Try.ntmps44
  go_wp2_with fail
  refine (l1New_any code A c _ hn E.out).mono ?_
  rintro e w1 ⟨g, rfl, hg, hb1, hcur⟩
  have hg' : w.heap.size + 1 ≤ g := by simpa using hg
  have P1 := Lib.hid (P0.out.below hb1)
  have B1 := Lib.hid (bTr B0.out hb1)
  have HC := Lib.hid hcur; clear hcur hb1 hg
  go_wp2_with fail
  refine (l6Val_any g code w1 HC.out).mono ?_
  rintro e w2 ⟨x, Ax, cx, rfl, hsx, hIx, hbx, hkx, hce, hcur⟩
  have P2 := Lib.hid (hce.blk P1.out (by omega))
  have hzv1 : w.heap.size < w1.heap.size := P1.out.lt
  have B2 := Lib.hid (B1.out.trans (hce.below (by omega)))
  have HX := Lib.hid (And.intro hsx (And.intro hIx (And.intro hbx hkx))); clear hce hcur hsx hIx hbx hkx
  have f0 := P2.out.frozen 0
  have f1 := P2.out.frozen 1
  have f2 := P2.out.frozen 2
  have f3 := P2.out.frozen 3
  have f4 := P2.out.frozen 4
  obtain ⟨p0, p1, p2, p3, p4⟩ := P2.out.c5
  have hzz : w.heap.size < w2.heap.size := P2.out.lt
  go_wp2_with fail
  refine bodyPost_ret (v := .agg #[.int .i64 x.kind, .int .i64 x.n, .int .i64 x.x, .string x.s, .slice Ax x.l.length cx]) (by simp [results, Try.results44, go_sem, *] <;> rfl) rfl ?_
  refine ⟨x, Ax, cx, rfl, (SF.set5 HX.out.1 hzv1 _ _ _ _ _).mono (Nat.le_of_lt hzv1), HX.out.2.1, HX.out.2.2.1, HX.out.2.2.2, ?_⟩
  refine Below.setCell (Below.setCell (Below.setCell (Below.setCell (Below.setCell B2.out ?_ _) ?_ _) ?_ _) ?_ _) ?_ _
  all_goals exact Nat.le_refl _
end Go.Proofs.Ytblcmajhdndmfaa
