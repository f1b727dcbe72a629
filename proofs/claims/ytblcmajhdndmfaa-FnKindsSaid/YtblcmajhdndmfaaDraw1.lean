/- Contracts of the reference's draws: the cursor. -/
import Derived.Test.YtblcmajhdndmfaaPlace
import Derived.BigQuiet
import Derived.Deep.QuietTactic
import Derived.Deep.RegionHeld3
import Derived.StillTailTactics
import Derived.Deep.CutRange
namespace Go.Proofs.Ytblcmajhdndmfaa
open Go.RowKit
set_option linter.unusedVariables false
set_option maxRecDepth 100000

/-- All is as it was but for block g (and what is new). -/
structure Ce (g : Nat) (w w' : World) : Prop where
  low : Below g w w'
  high : ∀ k, g < k → k < w.heap.size → w'.heap[k]? = w.heap[k]?
namespace Ce
variable {g : Nat} {w w' w'' : World}
theorem refl (g : Nat) (w : World) : Ce g w w := ⟨Below.refl _ _, fun _ _ _ => rfl⟩
theorem size (h : Ce g w w') : w.heap.size ≤ w'.heap.size := h.low.size
theorem trans (h : Ce g w w') (k : Ce g w' w'') : Ce g w w'' := ⟨h.low.trans k.low, fun i h1 h2 => (k.high i h1 (Nat.lt_of_lt_of_le h2 h.size)).trans (h.high i h1 h2)⟩
theorem of (h : Below w.heap.size w w') (hg : g ≤ w.heap.size) : Ce g w w' := ⟨h.mono hg, fun k _ h2 => h.block k h2⟩
theorem heap (h : Ce g w w') {k : Nat} (hk : k ≠ g) (hl : k < w.heap.size) : w'.heap[k]? = w.heap[k]? := by
  rcases Nat.lt_or_gt_of_ne hk with h1 | h1
  · exact h.low.block k h1
  · exact h.high k h1 hl
theorem blk (h : Ce g w w') {b : Nat} {t : TypeId} {cs : Array Value} (hb : Blk w b t cs) (hne : b ≠ g) : Blk w' b t cs := (h.heap hne hb.lt).trans hb
theorem below (h : Ce g w w') {n : Nat} (hn : n ≤ g) : Below n w w' := h.low.mono hn
theorem set (h : Ce g w w') (o : Nat) (v : Value) : Ce g w (w'.setCell ⟨g, o, none⟩ v) := h.trans ⟨(Below.refl g w').setCell (p := ⟨g, o, none⟩) (Nat.le_refl g) _, fun k h1 _ => Below.heap_setCell _ _ _ _ (by simp; omega)⟩
theorem add (h : Ce g w w') (o : Obj) (hg : g ≤ w'.heap.size) : Ce g w (w'.alloc o) := h.trans (of (bAl (bRf w') o) hg)
theorem drew (h : Ce g w w') : Ce g w w'.drew := ⟨h.low.drew, h.high⟩
theorem ss {α : Type} [Rep α] (h : Ce g w w') {S : Nat → Prop} {l : List α} {A : Option Addr} {c : Nat} (hs : SS w S l A c) (hS : ∀ b, S b → b ≠ g ∧ b < w.heap.size) : SS w' S l A c := SS.keep hs (fun b hb => h.heap (hS b hb).1 (hS b hb).2) (fun _ hb => hb)
theorem sf {α : Type} [Rep α] (h : Ce g w w') {base : Nat} {l : List α} {A : Option Addr} {c : Nat} (hs : SF base w l A c) (hg : g < base) : SF base w' l A c := by
  obtain ⟨F, h1, h2⟩ := hs
  exact ⟨F, h1.keep fun b hb => h.heap (by have := (h2.2 b hb).1; omega) (h2.2 b hb).2.lt, h2.1, fun b hb => ⟨(h2.2 b hb).1, (h2.2 b hb).2.keep (h.heap (by have := (h2.2 b hb).1; omega) (h2.2 b hb).2.lt)⟩⟩
end Ce

def curT : TypeId := 123
/-- A cursor at block g over a code. -/
def Cur (w : World) (g : Nat) (code : List UInt8) : Prop :=
  ∃ (A : Option Addr) (c i : Nat) (h : Int), Blk w g 123 #[.slice A code.length c, .int .i64 i, .int .i64 h] ∧ i ≤ code.length ∧ I64 h ∧ code.length ≤ 1048576 ∧ SS w (fun b => b < g) code A c
theorem Cur.lt {w : World} {g : Nat} {code : List UInt8} (h : Cur w g code) : g < w.heap.size := by
  obtain ⟨A, c, i, h, hb, _⟩ := h
  exact hb.lt
theorem Cur.below {w w' : World} {g : Nat} {code : List UInt8} (h : Cur w g code) (hb : Below w.heap.size w w') : Cur w' g code := by
  have hg := h.lt
  obtain ⟨A, c, i, h, h1, h2, h3, h4, h5⟩ := h
  exact ⟨A, c, i, h, h1.below hb, h2, h3, h4, SS.keep h5 (fun b hb' => hb.block b (by omega)) (fun _ h => h)⟩
def RetI (g : Nat) (code : List UInt8) (lo hi : Int) (w : World) (e : Ending) (w' : World) : Prop :=
  ∃ k : Int, e = .returned (.int .i64 k) ∧ lo ≤ k ∧ k ≤ hi ∧ Ce g w w' ∧ Cur w' g code

theorem and255_range (y : Int) : 0 ≤ bits .and .i64 y 255 ∧ bits .and .i64 y 255 ≤ 255 := by
  have h2 : (BitVec.ofInt 64 ((255 : Nat) : Int)).toNat = 255 := by
    rw [BitVec.ofInt_natCast, BitVec.toNat_ofNat]
  have h3 : bits .and .i64 y ((255 : Nat) : Int) = IntKind.i64.wrap ((BitVec.ofInt 64 y &&& BitVec.ofInt 64 ((255 : Nat) : Int)).toNat : Int) := rfl
  have h4 : ∀ T : Nat, T &&& 255 = T % 256 := fun T => Nat.and_two_pow_sub_one_eq_mod T 8
  show 0 ≤ bits .and .i64 y ((255 : Nat) : Int) ∧ bits .and .i64 y ((255 : Nat) : Int) ≤ 255
  rw [h3, BitVec.toNat_and, h2, h4, IntKind.wrap_i64]
  have h5 : (BitVec.ofInt 64 y).toNat % 256 < 256 := Nat.mod_lt _ (by decide)
  generalize (BitVec.ofInt 64 y).toNat % 256 = T at h5 ⊢
  omega

theorem l1Byte_any (g : Nat) (code : List UInt8) (w : World) (hc : Cur w g code) :
    Calls Try.prog 141 #[.pointer (some ⟨g, 0, none⟩)] w (RetI g code 0 255 w) := by
  obtain ⟨A, c, i, h, hb, hi, hh, hl, hs⟩ := hc
  obtain ⟨q0, q1, q2⟩ := hb.c3
  have hg := hb.lt
  have f0 := hb.frozen 0
  have f1 := hb.frozen 1
  have f2 := hb.frozen 2
  have HB := Lib.hid (And.intro hb hs); clear hb hs
  have H64 : ∀ y : Int, I64 (wrap64 y) := fun y => by unfold wrap64; exact ⟨by omega, by omega⟩
  go_enter Try.func141, Try.ntmps141
  go_wp2_with fail
  have hh2 := H64 (wrap64 (h * 6364136223846793005) + 1442695040888963407)
  generalize wrap64 (wrap64 (h * 6364136223846793005) + 1442695040888963407) = h2 at hh2 ⊢
  have hb1 := HB.out.1.set_ 2 (.int .i64 h2)
  have hce := (Ce.refl g w).set 2 (.int .i64 h2)
  have hs1 := hce.ss HB.out.2 (fun b hb => ⟨by omega, by omega⟩)
  generalize w.setCell ⟨g, 2, none⟩ (.int .i64 h2) = W at hb1 hce hs1 ⊢
  clear q0 q1 q2 f0 f1 f2 HB
  obtain ⟨q0, q1, q2⟩ := hb1.c3
  have hgW := hb1.lt
  have f1 := hb1.frozen 1
  have HB := Lib.hid (And.intro hb1 (And.intro hce hs1)); clear hb1 hce hs1
  go_quiet (fail)
  go_wp2_with fail
  have hx := and255_range (bits .xor .i64 (h2 / 8589934592) (h2 / 140737488355328))
  generalize bits .and .i64 (bits .xor .i64 (h2 / 8589934592) (h2 / 140737488355328)) 255 = x at hx ⊢
  by_cases hlt : i < code.length
  · have hlt' : (i : Int) < code.length := by omega
    obtain ⟨b, off, rfl, hb', kk⟩ := (show SA W code A c from SS.keep HB.out.2.2 (fun _ _ => rfl) (fun b h => by omega)).byte_at hlt
    have hnb : b ≠ g := by
      intro e
      obtain ⟨F, ⟨_, _, h3⟩, hF⟩ := HB.out.2.2
      rcases h3 with ⟨he, _⟩ | ⟨b2, off2, F', xs, hA, rfl, _, _⟩
      · rw [he] at hlt; simp at hlt
      · injection hA with hA; injection hA with e1 e2
        have := hF b2 (List.mem_cons_self ..)
        omega
    have hi0 : (0 : Int) ≤ i := by omega
    go_quiet (fail)
    go_wp2_with fail
    go_quiet (fail)
    go_wp2_with fail
    have hx2 := and255_range (wrap64 (x + wrap64 (code[i].toNat : Int)))
    generalize bits .and .i64 (wrap64 (x + wrap64 (code[i].toNat : Int))) 255 = y at hx2 ⊢
    go_ret
    refine ⟨y, rfl, hx2.1, hx2.2, (HB.out.2.1.trans (Ce.of (below_drewN (bRf W) _) (by omega))).set 1 _, ⟨some ⟨b, off, none⟩, c, i + 1, h2, ?_, by omega, hh2, hl, ?_⟩⟩
    · exact (HB.out.1.drewN _).set_ 1 _
    · exact ((Ce.of (below_drewN (bRf W) _) (by omega) : Ce g W (W.drewN _)).set 1 _).ss HB.out.2.2 (fun b hb => ⟨by omega, by omega⟩)
  · have hlt' : ¬ ((i : Int) < code.length) := by omega
    go_quiet (fail)
    go_wp2_with fail
    go_ret
    exact ⟨x, rfl, hx.1, hx.2, HB.out.2.1.trans ((Ce.of (below_drewN (bRf W) _) (by omega))), (show Cur W g code from ⟨A, c, i, h2, HB.out.1, hi, hh2, hl, HB.out.2.2⟩).below (below_drewN (bRf W) _)⟩
end Go.Proofs.Ytblcmajhdndmfaa
