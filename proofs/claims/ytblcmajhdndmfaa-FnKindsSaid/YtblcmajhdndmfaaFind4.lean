/- Contracts: Find and CountKind, in the program and in the reference. -/
import Derived.Test.YtblcmajhdndmfaaFind3
namespace Go.Proofs.Ytblcmajhdndmfaa
open Go.RowKit
set_option linter.unusedVariables false
set_option maxRecDepth 100000

theorem OwnF.block {α : Type} [Rep α] {w : World} {base : Nat} {t : TypeId} {A : Option Addr} {n c : Nat} {l : List α} (h : OwnF w base t (.slice A n c) l) (hl : 0 < l.length) : ∃ g, A = some ⟨g, 0, none⟩ := by
  obtain ⟨F, ⟨xs, ⟨_, h1⟩, _⟩, _⟩ := h
  rcases h1 with ⟨_, hn⟩ | ⟨g, cap, cur, hv, _⟩
  · omega
  · injection hv with hv; exact ⟨g, hv⟩

theorem find_filter (v : GVal) (kind : Int) : ((pathsG [] v).filter fun x => !(!(atG v x).isSome || (zv (atG v x)).kind != kind)) = findG v kind := by
  unfold findG
  refine List.filter_congr fun x hx => ?_
  obtain ⟨y, hy⟩ := allPaths_at hx
  rw [kindAt_zv, hy]
  by_cases h : y.kind = kind <;> simp [zv, bne, h]

set_option maxHeartbeats 1000000 in
theorem implFind_any (v : GVal) (kind : Int) (A : Option Addr) (c : Nat) (w : World) (hn : bulkVal v ≤ 1048576) (hv : VInt v) (hx : SA w v.l A c) :
    Calls Try.prog 34 #[.agg #[.int .i64 v.kind, .int .i64 v.n, .int .i64 v.x, .string v.s, .slice A v.l.length c], .int .i64 kind] w (RetS w (findG v kind)) := by
  have b0 := bAl (bAl (bRf w) (.cells #[.int .i64 v.kind, .int .i64 v.n, .int .i64 v.x, .string v.s, .slice A v.l.length c] 40)) (.cells #[.int .i64 kind] 3)
  have P0 := Lib.hid ((Blk.new w 40 #[.int .i64 v.kind, .int .i64 v.n, .int .i64 v.x, .string v.s, .slice A v.l.length c]).alloc (.cells #[.int .i64 kind] 3))
  have P1 := Lib.hid (Blk.at (w := w.alloc (.cells #[.int .i64 v.kind, .int .i64 v.n, .int .i64 v.x, .string v.s, .slice A v.l.length c] 40)) (g := w.heap.size + 1) (t := 3) (cs := #[.int .i64 kind]) (by simp))
  have E := Lib.hid (And.intro (hx.below b0) hx); clear hx
  have B0 := Lib.hid b0; clear b0
  have HI := Lib.hid hv; clear hv
  go_enter Try.func34, Try.ntmps34
  go_wp2_with fail
  refine (implAllPaths_any v A c _ hn E.out.1).mono ?_
  rintro e w1 ⟨A1, c1, rfl, ho1, hb1⟩
  have hpos : 0 < (pathsG [] v).length := by rw [pathsG_eq]; simp
  obtain ⟨g, rfl⟩ := ho1.block hpos
  have hle : (pathsG [] v).length ≤ 4194304 := by have := pathsG_len v []; omega
  have Q0 := P0.out.below hb1
  have Q1 := P1.out.below hb1
  have hB1 : Below w.heap.size w w1 := bTr B0.out hb1
  have hsz : w.heap.size + 2 + 1 ≤ w1.heap.size := by
    have h1 := ho1.own_lt g rfl
    simp at h1; omega
  have hD := deleteFuncPath_any (pathsG [] v) g c1 (w.heap.size + 2 + 1) w1 77 (.pointer (some ⟨w.heap.size, 0, none⟩)) (.pointer (some ⟨w.heap.size + 1, 0, none⟩)) (fun x => !(atG v x).isSome || (zv (atG v x)).kind != kind) hle (by simpa using ho1) hsz (fun a w => by kernel_rfl)
    (fun x hx A' c' w2 hb hs => implFind1_any v kind x A A' c c' w.heap.size (w.heap.size + 1) w2 hn HI.out (Q0.keepB hb (by omega)) (Q1.keepB hb (by omega)).c1 (Q1.keepB hb (by omega)).lt (SS.keep E.out.2 (fun b h => (hb.block b (by omega)).trans (hB1.block b h)) (fun b h => by have := hb.size; omega)) hs)
  rw [find_filter] at hD
  have HD := Lib.hid hD; clear hD
  have HB := Lib.hid hB1; clear hB1 Q0 Q1 hb1 ho1
  go_wp2_with fail
  refine HD.out.mono ?_
  rintro e w2 ⟨A2, c2, rfl, hs2, hb2⟩
  have HS := Lib.hid (And.intro hs2 hb2); clear hs2 hb2
  go_wp2_with fail
  go_ret
  exact ⟨A2, c2, rfl, HS.out.1.mono (by omega), HB.out.trans (HS.out.2.mono (by omega))⟩

theorem implCountKind_any (v : GVal) (kind : Int) (A : Option Addr) (c : Nat) (w : World) (hn : bulkVal v ≤ 1048576) (hv : VInt v) (hx : SA w v.l A c) :
    Calls Try.prog 19 #[.agg #[.int .i64 v.kind, .int .i64 v.n, .int .i64 v.x, .string v.s, .slice A v.l.length c], .int .i64 kind] w (Ret w (.int .i64 (findG v kind).length)) := by
  have E := Lib.hid hx; clear hx
  go_enter Try.func19, Try.ntmps19
  go_wp2_with (go_at_call 34; (refine (implFind_any v kind A c _ hn hv (E.out.below (bAl (bRf w) _))).mono ?_; rintro e w1 ⟨A2, c2, rfl, hs2, hb2⟩; have HS := Lib.hid hb2; clear hs2 hb2))
  go_ret
  exact ⟨rfl, bTr (bAl (bRf w) _) HS.out⟩
theorem specCountKind_any (v : GVal) (kind : Int) (A : Option Addr) (c : Nat) (w : World) (hn : bulkVal v ≤ 1048576) (hv : VInt v) (hx : SA w v.l A c) :
    Calls Try.prog 17 #[.agg #[.int .i64 v.kind, .int .i64 v.n, .int .i64 v.x, .string v.s, .slice A v.l.length c], .int .i64 kind] w (Ret w (.int .i64 (findG v kind).length)) := by
  have E := Lib.hid hx; clear hx
  go_enter Try.func17, Try.ntmps17
  go_wp2_with (go_at_call 33; (refine (specFind_any v kind A c _ hn hv (E.out.below (bAl (bRf w) _))).mono ?_; rintro e w1 ⟨A2, c2, rfl, hs2, hb2⟩; have HS := Lib.hid hb2; clear hs2 hb2))
  go_ret
  exact ⟨rfl, bTr (bAl (bRf w) _) HS.out⟩
end Go.Proofs.Ytblcmajhdndmfaa
