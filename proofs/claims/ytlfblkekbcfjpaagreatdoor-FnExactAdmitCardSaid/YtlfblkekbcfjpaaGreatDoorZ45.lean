/- Part of a proof: contracts and plain laws. -/
import Derived.Test.YtlfblkekbcfjpaaGreatDoorZ44
set_option linter.unusedVariables false
set_option linter.unusedSimpArgs false
namespace Go.Proofs.YtlfblkekbcfjpaaGreatDoor
open Go
set_option maxRecDepth 100000
set_option maxHeartbeats 2000000
abbrev rdB (b : List UInt8) (at_ c : Int) : V := .blk [Y b, I at_, I c]
theorem iPrFail {b : List UInt8} {at_ c k : Int} : Fn Tryz.prog 126 [rdB b at_ c, I k] [rdB b at_ k, .un] [vF 27 zeroG] := by
 refine Fn_of Tryz.func126 rfl rfl (by simp -implicitDefEqProofs -dsimp) rfl ?_; simp only [Tryz.f126]
 simp -implicitDefEqProofs -dsimp [vF, zeroG]
def RpI (b : List UInt8) (d : Nat) : Prop := ∀ a : Int, Fn Tryz.prog 83 [rdB b a 0, I d] [trO b (packP b d a), .un] [vF 27 (exV (packP b d a))]
theorem iPV_0 {b : List UInt8} : RpI b 0 := by
 intro a
 unfold packP
 refine Fn_of Tryz.func83 rfl rfl (by simp -implicitDefEqProofs -dsimp) rfl ?_; simp only [Tryz.f83]
 simp -implicitDefEqProofs -dsimp
 refine wpcall_q (iPrFail (b := b) (at_ := a) (c := 0) (k := 2)) ?_
 simp -implicitDefEqProofs -dsimp [vF, zeroG, exA, exV, codeE]
section
variable {b : List UInt8} {d : Nat} {at_ k n e c : Int}
theorem iPV_e (hb : b.length ≤ 1099511627776) (hm : getMarkP b at_ = ((k, n), e, c)) (hc : ¬ c = 0) : Fn Tryz.prog 83 [rdB b at_ 0, I (d + 1)] [trO b (packP b (d + 1) at_), .un] [vF 27 (exV (packP b (d + 1) at_))] := by
 have hd1 : ¬ ((d : Int) + 1 < 1) := by omega
 have hM := iGetMark (b := b) (at_ := at_) hb
 rw [hm] at hM
 rw [show packP b (d + 1) at_ = .error c from by unfold packP; simp -implicitDefEqProofs -dsimp [hm, hc]]
 refine Fn_of Tryz.func83 rfl rfl (by simp -implicitDefEqProofs -dsimp) rfl ?_; simp only [Tryz.f83]
 simp -implicitDefEqProofs -dsimp [hd1]
 refine wpcall_d hM ?_; simp -implicitDefEqProofs -dsimp [hc]
 refine ⟨?_, ?_⟩
 ·refine chkOk ?_; kernel_rfl
 refine wpcall_q (iPrFail (b := b) (at_ := at_) (c := 0) (k := c)) ?_
 simp -implicitDefEqProofs -dsimp [exA, exV, codeE, vF, zeroG]
theorem iPV_4 (hb : b.length ≤ 1099511627776) (hm : getMarkP b at_ = ((4, n), e, 0)) (hK : 0 ≤ at_ ∧ at_ < e ∧ e ≤ b.length ∧ 1 ≤ (4 : Int) ∧ (4 : Int) ≤ 10 ∧ (7 ≤ (4 : Int) → 0 ≤ n ∧ n ≤ 65535)) : Fn Tryz.prog 83 [rdB b at_ 0, I (d + 1)] [trO b (packP b (d + 1) at_), .un] [vF 27 (exV (packP b (d + 1) at_))] := by
 have hd1 : ¬ ((d : Int) + 1 < 1) := by omega
 have hM := iGetMark (b := b) (at_ := at_) hb
 rw [hm] at hM
 rw [show packP b (d + 1) at_ = .ok (⟨4, (optF (bitsFltP n)).1.1, (optF (bitsFltP n)).1.2, .empty, []⟩, e) from by unfold packP; simp -implicitDefEqProofs -dsimp [hm]]
 refine Fn_of Tryz.func83 rfl rfl (by simp -implicitDefEqProofs -dsimp) rfl ?_; simp only [Tryz.f83]
 simp -implicitDefEqProofs -dsimp [hd1]
 repeat' (first | with_reducible intro _ | with_reducible apply And.intro | (refine chkOk ?_; kernel_rfl) | (refine wpcall_d (hM) ?_; simp -implicitDefEqProofs -dsimp [exA, exV, codeE, vF, zeroG]) | (refine wpcall_d (iBitsFlt) ?_; simp -implicitDefEqProofs -dsimp [exA, exV, codeE, vF, zeroG]))
theorem iPV_o (hb : b.length ≤ 1099511627776) (hm : getMarkP b at_ = ((k, n), e, 0)) (hK : 0 ≤ at_ ∧ at_ < e ∧ e ≤ b.length ∧ 1 ≤ (k : Int) ∧ (k : Int) ≤ 10 ∧ (7 ≤ (k : Int) → 0 ≤ n ∧ n ≤ 65535)) (h4 : ¬ k = 4) (h7 : ¬ k = 7) (h8 : ¬ k = 8) (h9 : ¬ k = 9) (h10 : ¬ k = 10) : Fn Tryz.prog 83 [rdB b at_ 0, I (d + 1)] [trO b (packP b (d + 1) at_), .un] [vF 27 (exV (packP b (d + 1) at_))] := by
 have hd1 : ¬ ((d : Int) + 1 < 1) := by omega
 have hM := iGetMark (b := b) (at_ := at_) hb
 rw [hm] at hM
 rw [show packP b (d + 1) at_ = .ok (⟨k, n, 0, .empty, []⟩, e) from by unfold packP; simp -implicitDefEqProofs -dsimp [hm, h4, h7, h8, h9, h10]]
 refine Fn_of Tryz.func83 rfl rfl (by simp -implicitDefEqProofs -dsimp) rfl ?_; simp only [Tryz.f83]
 simp -implicitDefEqProofs -dsimp [hd1]
 repeat' (first | with_reducible intro _ | with_reducible apply And.intro | (refine chkOk ?_; kernel_rfl) | (refine wpcall_d (hM) ?_; simp -implicitDefEqProofs -dsimp [exA, exV, codeE, vF, zeroG, h4, h7, h8, h9, h10]))
theorem iPV_7 (hb : b.length ≤ 1099511627776) (hm : getMarkP b at_ = ((7, n), e, 0)) (hK : 0 ≤ at_ ∧ at_ < e ∧ e ≤ b.length ∧ 1 ≤ (7 : Int) ∧ (7 : Int) ≤ 10 ∧ (7 ≤ (7 : Int) → 0 ≤ n ∧ n ≤ 65535)) (hE : existP b e n = true) (ht : textOkP (Bs ((b.drop e.toNat).take n.toNat)) = true) : Fn Tryz.prog 83 [rdB b at_ 0, I (d + 1)] [trO b (packP b (d + 1) at_), .un] [vF 27 (exV (packP b (d + 1) at_))] := by
 have hd1 : ¬ ((d : Int) + 1 < 1) := by omega
 have hM := iGetMark (b := b) (at_ := at_) hb
 rw [hm] at hM
 obtain ⟨b1, b2, b3, b4, b5, b6⟩ := hK
 have hE2 := existP_iff.1 hE
 have hw : wrK .i64 (e + n) = e + n := wrap64_id _ (by omega)
 have hw2 : wrK .i64 ((b.length : Int) - e) = b.length - e := wrap64_id _ (by clear hw; omega)
 have hw3 : ¬ (b.length : Int) - e < n := by clear hw hw2; omega
 have hz : ∀ x : UInt8, (x.toNat : Int) < 256 := fun x => by have := x.toNat_lt; omega
 obtain ⟨l, hl⟩ : ∃ l, (b.drop e.toNat).take n.toNat = l := ⟨_, rfl⟩
 have hsl : List.drop e.toNat (List.take (e + n).toNat (List.map bv b)) = List.map bv l := by clear hw hw2; rw [← hl, List.drop_take, List.map_take, List.map_drop]; congr 1; omega
 have hll : l.length ≤ 65535 := by clear hw hw2; rw [← hl]; simp -implicitDefEqProofs -dsimp; omega
 have hT := iTextOk (s := Bs l) (by show l.length ≤ _; clear hw hw2; omega)
 have h1 : 0 ≤ e := by omega
 have h2 : e ≤ e + n := by clear hw hw2; omega
 have h3 : e + n ≤ b.length := by clear hw hw2; omega
 rw [show packP b (d + 1) at_ = .ok (⟨7, 0, 0, Bs l, []⟩, e + n) from by unfold packP; simp -implicitDefEqProofs -dsimp [hm, hE, ← hl, ht]]
 rw [hl] at ht; rw [ht] at hT
 refine Fn_of Tryz.func83 rfl rfl (by simp -implicitDefEqProofs -dsimp) rfl ?_; simp only [Tryz.f83]
 simp -implicitDefEqProofs -dsimp [hd1]
 repeat' (first | with_reducible intro _ | with_reducible apply And.intro | (refine chkOk ?_; kernel_rfl) | (refine wpcall_d (hM) ?_; simp -implicitDefEqProofs -dsimp [exA, exV, codeE, vF, zeroG, hw, hw2, hw3, hsl, hz, h1, h2, h3]) | (refine wpcall_d (hT) ?_; simp -implicitDefEqProofs -dsimp [exA, exV, codeE, vF, zeroG, hw, hw2, hw3, hsl, hz, h1, h2, h3]))
theorem iPV_7b (hb : b.length ≤ 1099511627776) (hm : getMarkP b at_ = ((7, n), e, 0)) (hK : 0 ≤ at_ ∧ at_ < e ∧ e ≤ b.length ∧ 1 ≤ (7 : Int) ∧ (7 : Int) ≤ 10 ∧ (7 ≤ (7 : Int) → 0 ≤ n ∧ n ≤ 65535)) (hE : existP b e n = true) (ht : textOkP (Bs ((b.drop e.toNat).take n.toNat)) = false) : Fn Tryz.prog 83 [rdB b at_ 0, I (d + 1)] [trO b (packP b (d + 1) at_), .un] [vF 27 (exV (packP b (d + 1) at_))] := by
 have hd1 : ¬ ((d : Int) + 1 < 1) := by omega
 have hM := iGetMark (b := b) (at_ := at_) hb
 rw [hm] at hM
 obtain ⟨b1, b2, b3, b4, b5, b6⟩ := hK
 have hE2 := existP_iff.1 hE
 have hw : wrK .i64 (e + n) = e + n := wrap64_id _ (by omega)
 have hw2 : wrK .i64 ((b.length : Int) - e) = b.length - e := wrap64_id _ (by clear hw; omega)
 have hw3 : ¬ (b.length : Int) - e < n := by clear hw hw2; omega
 have hz : ∀ x : UInt8, (x.toNat : Int) < 256 := fun x => by have := x.toNat_lt; omega
 obtain ⟨l, hl⟩ : ∃ l, (b.drop e.toNat).take n.toNat = l := ⟨_, rfl⟩
 have hsl : List.drop e.toNat (List.take (e + n).toNat (List.map bv b)) = List.map bv l := by clear hw hw2; rw [← hl, List.drop_take, List.map_take, List.map_drop]; congr 1; omega
 have hll : l.length ≤ 65535 := by clear hw hw2; rw [← hl]; simp -implicitDefEqProofs -dsimp; omega
 have hT := iTextOk (s := Bs l) (by show l.length ≤ _; clear hw hw2; omega)
 have h1 : 0 ≤ e := by omega
 have h2 : e ≤ e + n := by clear hw hw2; omega
 have h3 : e + n ≤ b.length := by clear hw hw2; omega
 rw [show packP b (d + 1) at_ = .error 1 from by unfold packP; simp -implicitDefEqProofs -dsimp [hm, hE, ← hl, ht]]
 rw [hl] at ht; rw [ht] at hT
 refine Fn_of Tryz.func83 rfl rfl (by simp -implicitDefEqProofs -dsimp) rfl ?_; simp only [Tryz.f83]
 simp -implicitDefEqProofs -dsimp [hd1]
 repeat' (first | with_reducible intro _ | with_reducible apply And.intro | (refine chkOk ?_; kernel_rfl) | (refine wpcall_d (hM) ?_; simp -implicitDefEqProofs -dsimp [exA, exV, codeE, vF, zeroG, hw, hw2, hw3, hsl, hz, h1, h2, h3]) | (refine wpcall_d (hT) ?_; simp -implicitDefEqProofs -dsimp [exA, exV, codeE, vF, zeroG, hw, hw2, hw3, hsl, hz, h1, h2, h3]) | (refine wpcall_q (iPrFail (b := b) (at_ := e) (c := 0) (k := 1)) ?_; simp -implicitDefEqProofs -dsimp [exA, exV, codeE, vF, zeroG, hw, hw2, hw3, hsl, hz, h1, h2, h3]))
theorem iPV_8 (hb : b.length ≤ 1099511627776) (hm : getMarkP b at_ = ((8, n), e, 0)) (hK : 0 ≤ at_ ∧ at_ < e ∧ e ≤ b.length ∧ 1 ≤ (8 : Int) ∧ (8 : Int) ≤ 10 ∧ (7 ≤ (8 : Int) → 0 ≤ n ∧ n ≤ 65535)) (hE : existP b e n = true) : Fn Tryz.prog 83 [rdB b at_ 0, I (d + 1)] [trO b (packP b (d + 1) at_), .un] [vF 27 (exV (packP b (d + 1) at_))] := by
 have hd1 : ¬ ((d : Int) + 1 < 1) := by omega
 have hM := iGetMark (b := b) (at_ := at_) hb
 rw [hm] at hM
 obtain ⟨b1, b2, b3, b4, b5, b6⟩ := hK
 have hE2 := existP_iff.1 hE
 have hw : wrK .i64 (e + n) = e + n := wrap64_id _ (by omega)
 have hw2 : wrK .i64 ((b.length : Int) - e) = b.length - e := wrap64_id _ (by clear hw; omega)
 have hw3 : ¬ (b.length : Int) - e < n := by clear hw hw2; omega
 have hz : ∀ x : UInt8, (x.toNat : Int) < 256 := fun x => by have := x.toNat_lt; omega
 obtain ⟨l, hl⟩ : ∃ l, (b.drop e.toNat).take n.toNat = l := ⟨_, rfl⟩
 have hsl : List.drop e.toNat (List.take (e + n).toNat (List.map bv b)) = List.map bv l := by clear hw hw2; rw [← hl, List.drop_take, List.map_take, List.map_drop]; congr 1; omega
 have hll : l.length ≤ 65535 := by clear hw hw2; rw [← hl]; simp -implicitDefEqProofs -dsimp; omega
 have hT := iTextOk (s := Bs l) (by show l.length ≤ _; clear hw hw2; omega)
 have h1 : 0 ≤ e := by omega
 have h2 : e ≤ e + n := by clear hw hw2; omega
 have h3 : e + n ≤ b.length := by clear hw hw2; omega
 rw [show packP b (d + 1) at_ = .ok (⟨8, 0, 0, Bs l, []⟩, e + n) from by unfold packP; simp -implicitDefEqProofs -dsimp [hm, hE, ← hl]]
 refine Fn_of Tryz.func83 rfl rfl (by simp -implicitDefEqProofs -dsimp) rfl ?_; simp only [Tryz.f83]
 simp -implicitDefEqProofs -dsimp [hd1]
 repeat' (first | with_reducible intro _ | with_reducible apply And.intro | (refine chkOk ?_; kernel_rfl) | (refine wpcall_d (hM) ?_; simp -implicitDefEqProofs -dsimp [exA, exV, codeE, vF, zeroG, hw, hw2, hw3, hsl, hz, h1, h2, h3]))
 refine WC_nr [B false] (by simp -implicitDefEqProofs -dsimp) ?_; simp -implicitDefEqProofs -dsimp [exA, exV, codeE, vF, zeroG, hw, hw2, hw3, hsl, hz, h1, h2, h3]
 repeat' (first | with_reducible intro _ | with_reducible apply And.intro | (refine chkOk ?_; kernel_rfl))
theorem iPV_7n (hb : b.length ≤ 1099511627776) (hm : getMarkP b at_ = ((7, n), e, 0)) (hK : 0 ≤ at_ ∧ at_ < e ∧ e ≤ b.length ∧ 1 ≤ (7 : Int) ∧ (7 : Int) ≤ 10 ∧ (7 ≤ (7 : Int) → 0 ≤ n ∧ n ≤ 65535)) (hE : existP b e n = false) : Fn Tryz.prog 83 [rdB b at_ 0, I (d + 1)] [trO b (packP b (d + 1) at_), .un] [vF 27 (exV (packP b (d + 1) at_))] := by
 have hd1 : ¬ ((d : Int) + 1 < 1) := by omega
 have hM := iGetMark (b := b) (at_ := at_) hb
 rw [hm] at hM
 obtain ⟨b1, b2, b3, b4, b5, b6⟩ := hK
 have hE2 : ¬ (0 ≤ n ∧ 0 ≤ e ∧ e + n ≤ b.length) := fun h => by rw [existP_iff.2 h] at hE; cases hE
 have hw2 : wrK .i64 ((b.length : Int) - e) = b.length - e := wrap64_id _ (by omega)
 have hw3 : (b.length : Int) - e < n := by clear hw2; omega
 rw [show packP b (d + 1) at_ = .error 1 from by unfold packP; simp -implicitDefEqProofs -dsimp [hm, hE]]
 refine Fn_of Tryz.func83 rfl rfl (by simp -implicitDefEqProofs -dsimp) rfl ?_; simp only [Tryz.f83]
 simp -implicitDefEqProofs -dsimp [hd1]
 repeat' (first | with_reducible intro _ | with_reducible apply And.intro | (refine chkOk ?_; kernel_rfl) | (refine wpcall_d (hM) ?_; simp -implicitDefEqProofs -dsimp [exA, exV, codeE, vF, zeroG, hw2, hw3]) | (refine wpcall_q (iPrFail (b := b) (at_ := e) (c := 0) (k := 1)) ?_; simp -implicitDefEqProofs -dsimp [exA, exV, codeE, vF, zeroG, hw2, hw3]))
theorem iPV_8n (hb : b.length ≤ 1099511627776) (hm : getMarkP b at_ = ((8, n), e, 0)) (hK : 0 ≤ at_ ∧ at_ < e ∧ e ≤ b.length ∧ 1 ≤ (8 : Int) ∧ (8 : Int) ≤ 10 ∧ (7 ≤ (8 : Int) → 0 ≤ n ∧ n ≤ 65535)) (hE : existP b e n = false) : Fn Tryz.prog 83 [rdB b at_ 0, I (d + 1)] [trO b (packP b (d + 1) at_), .un] [vF 27 (exV (packP b (d + 1) at_))] := by
 have hd1 : ¬ ((d : Int) + 1 < 1) := by omega
 have hM := iGetMark (b := b) (at_ := at_) hb
 rw [hm] at hM
 obtain ⟨b1, b2, b3, b4, b5, b6⟩ := hK
 have hE2 : ¬ (0 ≤ n ∧ 0 ≤ e ∧ e + n ≤ b.length) := fun h => by rw [existP_iff.2 h] at hE; cases hE
 have hw2 : wrK .i64 ((b.length : Int) - e) = b.length - e := wrap64_id _ (by omega)
 have hw3 : (b.length : Int) - e < n := by clear hw2; omega
 rw [show packP b (d + 1) at_ = .error 1 from by unfold packP; simp -implicitDefEqProofs -dsimp [hm, hE]]
 refine Fn_of Tryz.func83 rfl rfl (by simp -implicitDefEqProofs -dsimp) rfl ?_; simp only [Tryz.f83]
 simp -implicitDefEqProofs -dsimp [hd1]
 repeat' (first | with_reducible intro _ | with_reducible apply And.intro | (refine chkOk ?_; kernel_rfl) | (refine wpcall_d (hM) ?_; simp -implicitDefEqProofs -dsimp [exA, exV, codeE, vF, zeroG, hw2, hw3]) | (refine wpcall_q (iPrFail (b := b) (at_ := e) (c := 0) (k := 1)) ?_; simp -implicitDefEqProofs -dsimp [exA, exV, codeE, vF, zeroG, hw2, hw3]))
theorem iPV_9 (hb : b.length ≤ 1073741824) (hd : d < 1000000) (hV : RpI b d) (hm : getMarkP b at_ = ((9, n), e, 0)) (hK : 0 ≤ at_ ∧ at_ < e ∧ e ≤ b.length ∧ 1 ≤ (9 : Int) ∧ (9 : Int) ≤ 10 ∧ (7 ≤ (9 : Int) → 0 ≤ n ∧ n ≤ 65535)) : Fn Tryz.prog 83 [rdB b at_ 0, I (d + 1)] [trO b (packP b (d + 1) at_), .un] [vF 27 (exV (packP b (d + 1) at_))] := by
 have hd1 : ¬ ((d : Int) + 1 < 1) := by omega
 have hM := iGetMark (b := b) (at_ := at_) (by omega)
 rw [hm] at hM
 obtain ⟨b1, b2, b3, b4, b5, b6⟩ := hK
 have hd2 : wrK .i64 (d : Int) = d := wrap64_id _ (by omega)
 obtain ⟨N, rfl⟩ : ∃ N : Nat, n = N := ⟨n.toNat, by omega⟩
 have hN : N = N := rfl
 have hw2 : True := trivial
 have hN2 : N ≤ 131070 := by clear hw2; omega
 generalize hR : packP b (d + 1) at_ = R
 rw [show packP b (d + 1) at_ = match manyP (packP b d) N e with | .error c => .error c | .ok (xs, e) => .ok (⟨9, 0, 0, .empty, xs⟩, e) from by unfold packP; simp -implicitDefEqProofs -dsimp [hm, hN] <;> rfl] at hR
 refine Fn_of Tryz.func83 rfl rfl (by simp -implicitDefEqProofs -dsimp) (by rcases R with _ | ⟨_, _⟩ <;> rfl) ?_; simp only [Tryz.f83]
 simp -implicitDefEqProofs -dsimp [hd1]
 refine wpcall_d hM ?_; simp -implicitDefEqProofs -dsimp
 repeat' (first | with_reducible apply And.intro | (refine chkOk ?_; kernel_rfl))
 refine WL_loop (fun p : Nat × Int × List GVal => [(0, rdB b p.2.1 0), (1, I (d + 1)), (4, .blk [I 0, I 0, I 0, S .empty, .nil]), (8, .blk [I 9, I 0, I 0, S .empty, .row true 27 (p.2.2.map vV)]), (128, I N), (129, I p.1)]) (fun p => N - p.1) (fun p => p.1 ≤ N ∧ manyP (packP b d) p.1 e = .ok (p.2.2, p.2.1)) (0, e, []) ⟨Nat.zero_le _, rfl⟩ ?_ ?_
 ·simp -implicitDefEqProofs -dsimp
 ·rintro ⟨j, e', xs⟩ ⟨hj, hx⟩
  simp only at hj hx
  have hlen := manyP_len hx
  by_cases hjn : j < N
  ·have hjn' : (j : Int) < N := by omega
   have ihe := hV e'
   have hnx : manyP (packP b d) (j + 1) e = match packP b d e' with | .error c => .error c | .ok (x, e) => .ok (xs ++ [x], e) := by unfold manyP; simp only [hx]; cases packP b d e' <;> rfl
   cases hq : packP b d e' with
   | error c2 =>
    have hc2 := packP_err hq
    rw [hq] at hnx
    have h9 := manyP_err hnx (N - (j + 1))
    rw [show j + 1 + (N - (j + 1)) = N by omega] at h9
    rw [h9] at hR
    subst hR
    rw [hq] at ihe
    simp only [trO, exA, exV, codeE, vF, zeroG] at ihe ⊢
    simp -implicitDefEqProofs -dsimp [-head_L, hjn', hd2]
    refine wpcall_q ihe ?_; simp -implicitDefEqProofs -dsimp [-head_L, hc2]
   | ok q =>
    obtain ⟨x, e2⟩ := q
    rw [hq] at hnx ihe
    simp only [trO, exA, exV, codeE, vF] at ihe
    have hb9 : (xs.length + 1) * 64 ≤ 1099511627776 := by omega
    have hw9 : wrK .i64 ((j : Int) + 1) = j + 1 := wrap64_id _ (by omega)
    simp -implicitDefEqProofs -dsimp [-head_L, -endOk, hjn', hd2]
    refine wpcall_q ihe ?_; simp -implicitDefEqProofs -dsimp [-head_L, -endOk, hw9, hb9]
    refine ⟨j + 1, e2, xs ++ [x], ⟨by omega, hnx⟩, by omega, ?_⟩
    simp -implicitDefEqProofs -dsimp
  ·have hjn' : ¬ (j : Int) < N := by omega
   obtain rfl : j = N := by omega
   rw [hx] at hR
   subst hR
   simp -implicitDefEqProofs -dsimp [-head_L, trO, exA, exV, codeE, vF]
theorem iPV_10 (hb : b.length ≤ 1073741824) (hd : d < 1000000) (hV : RpI b d) (hm : getMarkP b at_ = ((10, n), e, 0)) (hK : 0 ≤ at_ ∧ at_ < e ∧ e ≤ b.length ∧ 1 ≤ (10 : Int) ∧ (10 : Int) ≤ 10 ∧ (7 ≤ (10 : Int) → 0 ≤ n ∧ n ≤ 65535)) : Fn Tryz.prog 83 [rdB b at_ 0, I (d + 1)] [trO b (packP b (d + 1) at_), .un] [vF 27 (exV (packP b (d + 1) at_))] := by
 have hd1 : ¬ ((d : Int) + 1 < 1) := by omega
 have hM := iGetMark (b := b) (at_ := at_) (by omega)
 rw [hm] at hM
 obtain ⟨b1, b2, b3, b4, b5, b6⟩ := hK
 have hd2 : wrK .i64 (d : Int) = d := wrap64_id _ (by omega)
 obtain ⟨m, rfl⟩ : ∃ m : Nat, n = m := ⟨n.toNat, by omega⟩
 obtain ⟨N, hN⟩ : ∃ N : Nat, 2 * m = N := ⟨_, rfl⟩
 have hw2 : wrK .i64 ((m : Int) * 2) = (N : Int) := by rw [wrap64_id _ (by omega)]; omega
 have hN2 : N ≤ 131070 := by clear hw2; omega
 generalize hR : packP b (d + 1) at_ = R
 rw [show packP b (d + 1) at_ = match manyP (packP b d) N e with | .error c => .error c | .ok (xs, e) => .ok (⟨10, 0, 0, .empty, xs⟩, e) from by unfold packP; simp -implicitDefEqProofs -dsimp [hm, hN] <;> rfl] at hR
 refine Fn_of Tryz.func83 rfl rfl (by simp -implicitDefEqProofs -dsimp) (by rcases R with _ | ⟨_, _⟩ <;> rfl) ?_; simp only [Tryz.f83]
 simp -implicitDefEqProofs -dsimp [hd1]
 refine wpcall_d hM ?_; simp -implicitDefEqProofs -dsimp [hw2]
 repeat' (first | with_reducible apply And.intro | (refine chkOk ?_; kernel_rfl))
 refine WL_loop (fun p : Nat × Int × List GVal => [(0, rdB b p.2.1 0), (1, I (d + 1)), (4, .blk [I 0, I 0, I 0, S .empty, .nil]), (8, .blk [I 10, I 0, I 0, S .empty, .row true 27 (p.2.2.map vV)]), (128, I N), (129, I p.1)]) (fun p => N - p.1) (fun p => p.1 ≤ N ∧ manyP (packP b d) p.1 e = .ok (p.2.2, p.2.1)) (0, e, []) ⟨Nat.zero_le _, rfl⟩ ?_ ?_
 ·simp -implicitDefEqProofs -dsimp
 ·rintro ⟨j, e', xs⟩ ⟨hj, hx⟩
  simp only at hj hx
  have hlen := manyP_len hx
  by_cases hjn : j < N
  ·have hjn' : (j : Int) < N := by omega
   have ihe := hV e'
   have hnx : manyP (packP b d) (j + 1) e = match packP b d e' with | .error c => .error c | .ok (x, e) => .ok (xs ++ [x], e) := by unfold manyP; simp only [hx]; cases packP b d e' <;> rfl
   cases hq : packP b d e' with
   | error c2 =>
    have hc2 := packP_err hq
    rw [hq] at hnx
    have h9 := manyP_err hnx (N - (j + 1))
    rw [show j + 1 + (N - (j + 1)) = N by omega] at h9
    rw [h9] at hR
    subst hR
    rw [hq] at ihe
    simp only [trO, exA, exV, codeE, vF, zeroG] at ihe ⊢
    simp -implicitDefEqProofs -dsimp [-head_L, hjn', hd2]
    refine wpcall_q ihe ?_; simp -implicitDefEqProofs -dsimp [-head_L, hc2]
   | ok q =>
    obtain ⟨x, e2⟩ := q
    rw [hq] at hnx ihe
    simp only [trO, exA, exV, codeE, vF] at ihe
    have hb9 : (xs.length + 1) * 64 ≤ 1099511627776 := by omega
    have hw9 : wrK .i64 ((j : Int) + 1) = j + 1 := wrap64_id _ (by omega)
    simp -implicitDefEqProofs -dsimp [-head_L, -endOk, hjn', hd2]
    refine wpcall_q ihe ?_; simp -implicitDefEqProofs -dsimp [-head_L, -endOk, hw9, hb9]
    refine ⟨j + 1, e2, xs ++ [x], ⟨by omega, hnx⟩, by omega, ?_⟩
    simp -implicitDefEqProofs -dsimp
  ·have hjn' : ¬ (j : Int) < N := by omega
   obtain rfl : j = N := by omega
   rw [hx] at hR
   subst hR
   simp -implicitDefEqProofs -dsimp [-head_L, trO, exA, exV, codeE, vF]
end
end Go.Proofs.YtlfblkekbcfjpaaGreatDoor
namespace Go.Proofs.YtlfblkekbcfjpaaGreatDoor
open Go
set_option maxRecDepth 100000
set_option maxHeartbeats 2000000
theorem iPV {b : List UInt8} (hb : b.length ≤ 1073741824) : ∀ d : Nat, d ≤ 1000000 → RpI b d
 | 0, _ => iPV_0
 | d + 1, hd => by
  have ih := iPV hb d (by omega)
  intro a
  rw [show ((d + 1 : Nat) : Int) = (d : Int) + 1 by omega]
  rcases hm : getMarkP b a with ⟨⟨k, n⟩, e, c⟩
  by_cases hc : c = 0
  ·subst hc
   have hK := getMarkP_bounds hm
   by_cases h4 : k = 4
   ·subst h4; exact iPV_4 (by omega) hm hK
   by_cases h7 : k = 7
   ·subst h7
    cases hE : existP b e n with
    | false => exact iPV_7n (by omega) hm hK hE
    | true =>
     cases ht : textOkP (Bs ((b.drop e.toNat).take n.toNat)) with
     | true => exact iPV_7 (by omega) hm hK hE ht
     | false => exact iPV_7b (by omega) hm hK hE ht
   by_cases h8 : k = 8
   ·subst h8
    cases hE : existP b e n with
    | false => exact iPV_8n (by omega) hm hK hE
    | true => exact iPV_8 (by omega) hm hK hE
   by_cases h9 : k = 9
   ·subst h9; exact iPV_9 hb (by omega) ih hm hK
   by_cases h10 : k = 10
   ·subst h10; exact iPV_10 hb (by omega) ih hm hK
   exact iPV_o (by omega) hm hK h4 h7 h8 h9 h10
  ·exact iPV_e (by omega) hm hc
def readPackP (b : List UInt8) (d : Nat) : Except Int GVal := match packP b d 0 with
 | .error c => .error c
 | .ok (v, e) => if e = b.length then .ok v else .error 1
theorem packP_adv {b : List UInt8} : ∀ {d : Nat} {a : Int} {v : GVal} {e : Int}, packP b d a = .ok (v, e) → 0 ≤ a ∧ a < e ∧ e ≤ b.length
 | 0, a, v, e, h => by unfold packP at h; cases h
 | d + 1, a, v, e', h => by
  unfold packP at h
  rcases hm : getMarkP b a with ⟨⟨k, n⟩, e, c⟩
  rw [hm] at h; simp only at h
  by_cases hc : c = 0
  ·subst hc
   have hK := getMarkP_bounds hm
   rw [if_neg (by simp -implicitDefEqProofs -dsimp)] at h
   have ih := fun a v e => packP_adv (b := b) (d := d) (a := a) (v := v) (e := e)
   refine ⟨hK.1, ?_⟩
   split at h
   ·cases h; omega
   ·split at h
    ·split at h
     ·rename_i hE; have := existP_iff.1 hE.1; cases h; omega
     ·cases h
    ·split at h
     ·generalize ((if k = 10 then 2 else 1) * n.toNat) = N at h
      cases hp : manyP (packP b d) N e with
      | error c => rw [hp] at h; cases h
      | ok q =>
       obtain ⟨xs, e2⟩ := q
       have := manyP_adv (L := b.length) (fun a v e h => (ih a v e h).2) hp
       rw [hp] at h; cases h; omega
     ·cases h; omega
  ·rw [if_pos hc] at h; cases h
theorem iGetPacked {b : List UInt8} {d : Nat} (hb : b.length ≤ 1073741824) (hd : d ≤ 1000000) :
  Fn Tryz.prog 59 [Y b, I 0, I d] [.un, .un, .un] [vF 27 (exV (packP b d 0)), I (exE (packP b d 0)), I (codeE (packP b d 0))] := by
 have hS := iPV hb d hd 0
 rcases hs : packP b d 0 with c | ⟨v, e⟩
 ·have hc := packP_err hs
  rw [hs] at hS; simp only [trO, exA, codeE, exV, vF] at hS
  refine Fn_of Tryz.func59 rfl rfl (by simp -implicitDefEqProofs -dsimp) rfl ?_; simp only [Tryz.f59]
  simp -implicitDefEqProofs -dsimp
  refine wpcall_q hS ?_; simp -implicitDefEqProofs -dsimp [hc, exV, exE, codeE, vF, zeroG]
  refine chkOk ?_; kernel_rfl
 ·rw [hs] at hS; simp only [trO, exA, codeE, exV, vF] at hS
  refine Fn_of Tryz.func59 rfl rfl (by simp -implicitDefEqProofs -dsimp) rfl ?_; simp only [Tryz.f59]
  simp -implicitDefEqProofs -dsimp
  refine wpcall_q hS ?_; simp -implicitDefEqProofs -dsimp [exV, exE, codeE, vF]
  refine chkOk ?_; kernel_rfl
theorem iReadPacked {b : List UInt8} {d : Nat} (hb : b.length ≤ 1073741824) (hd : d ≤ 1000000) :
  Fn Tryz.prog 43 [Y b, I d] [.un, .un] [vF 27 (exG (readPackP b d)), I (codeE (readPackP b d))] := by
 have hG := iGetPacked hb hd
 unfold readPackP
 rcases hs : packP b d 0 with c | ⟨v, e⟩
 ·have hc := packP_err hs
  rw [hs] at hG; simp -implicitDefEqProofs -dsimp [exV, exE, codeE, vF, zeroG] at hG
  refine Fn_of Tryz.func43 rfl rfl (by simp -implicitDefEqProofs -dsimp) rfl ?_; simp only [Tryz.f43]
  simp -implicitDefEqProofs -dsimp
  refine wpcall_q hG ?_; simp -implicitDefEqProofs -dsimp [hc, exG, codeE, vF, zeroG]
  all_goals (refine chkOk ?_; kernel_rfl)
 ·have hadv := packP_adv hs
  rw [hs] at hG; simp -implicitDefEqProofs -dsimp [exV, exE, codeE, vF] at hG
  by_cases he : e = b.length
  ·simp only [if_pos he]
   have he2 : ¬ e < b.length := by omega
   refine Fn_of Tryz.func43 rfl rfl (by simp -implicitDefEqProofs -dsimp) rfl ?_; simp only [Tryz.f43]
   simp -implicitDefEqProofs -dsimp
   refine wpcall_q hG ?_; simp -implicitDefEqProofs -dsimp [he2, exG, codeE, vF, zeroG]
   all_goals (refine chkOk ?_; kernel_rfl)
  ·simp only [if_neg he]
   have he2 : e < b.length := by omega
   refine Fn_of Tryz.func43 rfl rfl (by simp -implicitDefEqProofs -dsimp) rfl ?_; simp only [Tryz.f43]
   simp -implicitDefEqProofs -dsimp
   refine wpcall_q hG ?_; simp -implicitDefEqProofs -dsimp [he2, exG, codeE, vF, zeroG]
   all_goals (refine chkOk ?_; kernel_rfl)
theorem sReadPacked {b : List UInt8} {d : Nat} (hb : b.length ≤ 1073741824) (hd : d ≤ 1000000) :
  Fn Tryz.prog 38 [Y b, I d] [.un, .un] [vF 27 (exG (readPackP b d)), I (codeE (readPackP b d))] := by
 have hG := sGetPacked (b := b) (by omega) d 0 hd
 unfold readPackP
 rcases hs : packP b d 0 with c | ⟨v, e⟩
 ·have hc := packP_err hs
  rw [hs] at hG; simp -implicitDefEqProofs -dsimp [resE, vF, zeroG] at hG
  refine Fn_of Tryz.func38 rfl rfl (by simp -implicitDefEqProofs -dsimp) rfl ?_; simp only [Tryz.f38]
  simp -implicitDefEqProofs -dsimp
  refine wpcall_q hG ?_; simp -implicitDefEqProofs -dsimp [hc, exG, codeE, vF, zeroG]
 ·rw [hs] at hG; simp -implicitDefEqProofs -dsimp [resE, vF] at hG
  by_cases he : e = b.length
  ·simp only [if_pos he]
   refine Fn_of Tryz.func38 rfl rfl (by simp -implicitDefEqProofs -dsimp) rfl ?_; simp only [Tryz.f38]
   simp -implicitDefEqProofs -dsimp
   refine wpcall_q hG ?_; simp -implicitDefEqProofs -dsimp [he, exG, codeE, vF, zeroG]
  ·simp only [if_neg he]
   refine Fn_of Tryz.func38 rfl rfl (by simp -implicitDefEqProofs -dsimp) rfl ?_; simp only [Tryz.f38]
   simp -implicitDefEqProofs -dsimp
   refine wpcall_q hG ?_; simp -implicitDefEqProofs -dsimp [he, exG, codeE, vF, zeroG]
end Go.Proofs.YtlfblkekbcfjpaaGreatDoor
namespace Go.Proofs.YtlfblkekbcfjpaaGreatDoor
open Go
set_option maxRecDepth 100000
set_option maxHeartbeats 4000000
theorem iTrTextD {b : List UInt8} {a m n w : Int} (hb : b.length ≤ 1073741824) (ha : 0 ≤ a ∧ a ≤ b.length) (hn : 0 ≤ n) (hw : ¬ w = -1) (hm : m = 2 ∨ m = 3) :
  Fn Tryz.prog 123 [trB b a 0, .ag [I m, I n, I w]] [trO b (textE m (strB b a m n)), .un] [tvU (textE m (strB b a m n))] := by
 rcases hs : strB b a m n with c | ⟨s, e⟩
 ·have hB := iTrBytesE (w := w) hb ha hn hs
  have hc := strB_err hs
  subst hc
  rcases hm with rfl | rfl
  all_goals
   refine Fn_of Tryz.func123 rfl rfl (by simp -implicitDefEqProofs -dsimp) rfl ?_; simp only [Tryz.f123]
   simp -implicitDefEqProofs -dsimp [hw]
   refine wpcall_q hB ?_; simp -implicitDefEqProofs -dsimp [trO, textE, exA, codeE, tvU]
 ·have hB := iTrBytes (w := w) hb hs
  rcases hm with rfl | rfl
  all_goals
   refine Fn_of Tryz.func123 rfl rfl (by simp -implicitDefEqProofs -dsimp) rfl ?_; simp only [Tryz.f123]
   simp -implicitDefEqProofs -dsimp [hw]
   refine wpcall_q hB ?_; simp -implicitDefEqProofs -dsimp [trO, textE, exA, codeE, tvU, vF]
theorem iTrTextO_2 {b : List UInt8} {a : Int} (hb : b.length ≤ 1073741824) (ha : 0 ≤ a ∧ a ≤ b.length) :
  Fn Tryz.prog 123 [trB b a 0, .ag [I 2, I 0, I (-1)]] [trO b (textE 2 (partsQ b 2 a)), .un] [tvU (textE 2 (partsQ b 2 a))] := by
 generalize hR : textE 2 (partsQ b 2 a) = R
 refine Fn_of Tryz.func123 rfl rfl (by simp -implicitDefEqProofs -dsimp) (by rcases R with _ | ⟨_, _⟩ <;> rfl) ?_; simp only [Tryz.f123]
 simp -implicitDefEqProofs -dsimp
 refine WL_loop (fun p : List UInt8 × Int => [(0, trB b p.2 0), (3, .blk [I 2, I 0, I (-1)]), (4, .blk [I 0, I 0, I 0, T [], .nil]), (5, .blk [I 8, I 0, I 0, T [], .nil]), (6, .row true 5 (p.1.map bv))]) (fun p => b.length - p.2.toNat) (fun p => 0 ≤ p.2 ∧ p.2 ≤ b.length ∧ p.1.length ≤ p.2 ∧ textE 2 (pApp p.1 (partsQ b 2 p.2)) = R) ([], a) ⟨ha.1, ha.2, ha.1, by rw [pApp_nil]; exact hR⟩ ?_ ?_
 ·simp -implicitDefEqProofs -dsimp
 ·clear hR ha
  rintro ⟨acc, e⟩ ⟨h0, ha, hlen, hR⟩
  simp only at h0 ha hlen hR ⊢
  have hN := iTrEnds (b := b) (a := e) (c := 0) (by omega) h0
  have hz : ∀ x : UInt8, (x.toNat : Int) < 256 := fun x => by have := x.toNat_lt; omega
  have hal : acc.length ≤ 1099511627776 := by omega
  rcases hh : getHeadP b e with ⟨⟨m', n, w⟩, e1, c⟩
  cases hE : endB b e with
  | true =>
   have hat := endB_at hE
   rw [hE] at hN
   rw [partsQ_end hE] at hR; simp -implicitDefEqProofs -dsimp [pApp, textE] at hR; subst hR
   have hw1 : wrK .i64 (e + 1) = e + 1 := wrap64_id _ (by omega)
   simp -implicitDefEqProofs -dsimp [-head_L]
   refine wpcall_q hN ?_; simp -implicitDefEqProofs -dsimp [-head_L, hw1, hz, trO, exA, codeE, tvU, vF]
  | false =>
   rw [hE] at hN
   have hE' : ¬ endB b e = true := by rw [hE]; decide
   by_cases hc : c = 0
   ·subst hc
    have hH := iTrHead (b := b) (a := e) (by omega) hh
    have ho := head_ok hh
    by_cases hf : m' ≠ 2 ∨ w < 0
    ·rw [partsQ_form hh hE' hf] at hR; simp -implicitDefEqProofs -dsimp [pApp, textE] at hR; subst hR
     have hF := iTrFail (b := b) (a := e1) (k := 1)
     by_cases hmm : m' = 2
     ·have hw : w = -1 := by omega
      simp -implicitDefEqProofs -dsimp [-head_L]
      refine wpcall_q hN ?_; simp -implicitDefEqProofs -dsimp [-head_L]
      refine wpcall_q hH ?_; simp -implicitDefEqProofs -dsimp [-head_L, hw, hmm]
      refine wpcall_q hF ?_; simp -implicitDefEqProofs -dsimp [-head_L, trO, exA, codeE, tvU, vF, zeroG]
     ·simp -implicitDefEqProofs -dsimp [-head_L]
      refine wpcall_q hN ?_; simp -implicitDefEqProofs -dsimp [-head_L]
      refine wpcall_q hH ?_; simp -implicitDefEqProofs -dsimp [-head_L, hmm]
      refine wpcall_q hF ?_; simp -implicitDefEqProofs -dsimp [-head_L, trO, exA, codeE, tvU, vF, zeroG]
    ·obtain ⟨rfl, hw⟩ : m' = 2 ∧ ¬ w < 0 := by omega
     have hw2 : ¬ w = -1 := by omega
     cases hs : strB b e1 2 n with
     | error c =>
      have hS := iTrBytesE (w := w) hb ⟨by omega, by omega⟩ (by omega) hs
      have hc := strB_err hs; subst hc
      rw [partsQ_serr hh hE' hw hs] at hR; simp -implicitDefEqProofs -dsimp [pApp, textE] at hR; subst hR
      simp -implicitDefEqProofs -dsimp [-head_L]
      refine wpcall_q hN ?_; simp -implicitDefEqProofs -dsimp [-head_L]
      refine wpcall_q hH ?_; simp -implicitDefEqProofs -dsimp [-head_L, hw2]
      refine wpcall_q hS ?_; simp -implicitDefEqProofs -dsimp [-head_L, hal, trO, exA, codeE, tvU]
     | ok p =>
      obtain ⟨s, e2⟩ := p
      have hS := iTrBytes (w := w) hb hs
      have h3 := strB_ok hs
      rw [partsQ_step hh hE' hw hs] at hR
      simp -implicitDefEqProofs -dsimp [-head_L, -endOk]
      refine wpcall_q hN ?_; simp -implicitDefEqProofs -dsimp [-head_L, -endOk]
      refine wpcall_q hH ?_; simp -implicitDefEqProofs -dsimp [-head_L, -endOk, hw2]
      refine wpcall_q hS ?_; simp -implicitDefEqProofs -dsimp [-head_L, -endOk]
      refine ⟨by omega, acc ++ s, e2, ⟨by omega, by omega, by simp -implicitDefEqProofs -dsimp; omega, hR⟩, by omega, ?_⟩
      simp -implicitDefEqProofs -dsimp
   ·have hP := partsQ_head (b := b) (m := 2) (e := e) (by rw [hh]; exact hc)
    have hH := iTrHeadE (b := b) (a := e) (c := 0) (by omega) (by rw [hh]; exact hc)
    rw [hh] at hH hP
    rw [hP] at hR; simp -implicitDefEqProofs -dsimp [pApp, textE] at hR; subst hR
    simp -implicitDefEqProofs -dsimp [-head_L]
    refine wpcall_q hN ?_; simp -implicitDefEqProofs -dsimp [-head_L]
    refine wpcall_q hH ?_; simp -implicitDefEqProofs -dsimp [-head_L, hc, trO, exA, codeE, tvU]
theorem iTrTextO_3 {b : List UInt8} {a : Int} (hb : b.length ≤ 1073741824) (ha : 0 ≤ a ∧ a ≤ b.length) :
  Fn Tryz.prog 123 [trB b a 0, .ag [I 3, I 0, I (-1)]] [trO b (textE 3 (partsQ b 3 a)), .un] [tvU (textE 3 (partsQ b 3 a))] := by
 generalize hR : textE 3 (partsQ b 3 a) = R
 refine Fn_of Tryz.func123 rfl rfl (by simp -implicitDefEqProofs -dsimp) (by rcases R with _ | ⟨_, _⟩ <;> rfl) ?_; simp only [Tryz.f123]
 simp -implicitDefEqProofs -dsimp
 refine WL_loop (fun p : List UInt8 × Int => [(0, trB b p.2 0), (3, .blk [I 3, I 0, I (-1)]), (4, .blk [I 0, I 0, I 0, T [], .nil]), (5, .blk [I 7, I 0, I 0, T [], .nil]), (6, .row true 5 (p.1.map bv))]) (fun p => b.length - p.2.toNat) (fun p => 0 ≤ p.2 ∧ p.2 ≤ b.length ∧ p.1.length ≤ p.2 ∧ textE 3 (pApp p.1 (partsQ b 3 p.2)) = R) ([], a) ⟨ha.1, ha.2, ha.1, by rw [pApp_nil]; exact hR⟩ ?_ ?_
 ·simp -implicitDefEqProofs -dsimp
 ·clear hR ha
  rintro ⟨acc, e⟩ ⟨h0, ha, hlen, hR⟩
  simp only at h0 ha hlen hR ⊢
  have hN := iTrEnds (b := b) (a := e) (c := 0) (by omega) h0
  have hz : ∀ x : UInt8, (x.toNat : Int) < 256 := fun x => by have := x.toNat_lt; omega
  have hal : acc.length ≤ 1099511627776 := by omega
  rcases hh : getHeadP b e with ⟨⟨m', n, w⟩, e1, c⟩
  cases hE : endB b e with
  | true =>
   have hat := endB_at hE
   rw [hE] at hN
   rw [partsQ_end hE] at hR; simp -implicitDefEqProofs -dsimp [pApp, textE] at hR; subst hR
   have hw1 : wrK .i64 (e + 1) = e + 1 := wrap64_id _ (by omega)
   simp -implicitDefEqProofs -dsimp [-head_L]
   refine wpcall_q hN ?_; simp -implicitDefEqProofs -dsimp [-head_L, hw1, hz, trO, exA, codeE, tvU, vF]
  | false =>
   rw [hE] at hN
   have hE' : ¬ endB b e = true := by rw [hE]; decide
   by_cases hc : c = 0
   ·subst hc
    have hH := iTrHead (b := b) (a := e) (by omega) hh
    have ho := head_ok hh
    by_cases hf : m' ≠ 3 ∨ w < 0
    ·rw [partsQ_form hh hE' hf] at hR; simp -implicitDefEqProofs -dsimp [pApp, textE] at hR; subst hR
     have hF := iTrFail (b := b) (a := e1) (k := 1)
     by_cases hmm : m' = 3
     ·have hw : w = -1 := by omega
      simp -implicitDefEqProofs -dsimp [-head_L]
      refine wpcall_q hN ?_; simp -implicitDefEqProofs -dsimp [-head_L]
      refine wpcall_q hH ?_; simp -implicitDefEqProofs -dsimp [-head_L, hw, hmm]
      refine wpcall_q hF ?_; simp -implicitDefEqProofs -dsimp [-head_L, trO, exA, codeE, tvU, vF, zeroG]
     ·simp -implicitDefEqProofs -dsimp [-head_L]
      refine wpcall_q hN ?_; simp -implicitDefEqProofs -dsimp [-head_L]
      refine wpcall_q hH ?_; simp -implicitDefEqProofs -dsimp [-head_L, hmm]
      refine wpcall_q hF ?_; simp -implicitDefEqProofs -dsimp [-head_L, trO, exA, codeE, tvU, vF, zeroG]
    ·obtain ⟨rfl, hw⟩ : m' = 3 ∧ ¬ w < 0 := by omega
     have hw2 : ¬ w = -1 := by omega
     cases hs : strB b e1 3 n with
     | error c =>
      have hS := iTrBytesE (w := w) hb ⟨by omega, by omega⟩ (by omega) hs
      have hc := strB_err hs; subst hc
      rw [partsQ_serr hh hE' hw hs] at hR; simp -implicitDefEqProofs -dsimp [pApp, textE] at hR; subst hR
      simp -implicitDefEqProofs -dsimp [-head_L]
      refine wpcall_q hN ?_; simp -implicitDefEqProofs -dsimp [-head_L]
      refine wpcall_q hH ?_; simp -implicitDefEqProofs -dsimp [-head_L, hw2]
      refine wpcall_q hS ?_; simp -implicitDefEqProofs -dsimp [-head_L, hal, trO, exA, codeE, tvU]
     | ok p =>
      obtain ⟨s, e2⟩ := p
      have hS := iTrBytes (w := w) hb hs
      have h3 := strB_ok hs
      rw [partsQ_step hh hE' hw hs] at hR
      simp -implicitDefEqProofs -dsimp [-head_L, -endOk]
      refine wpcall_q hN ?_; simp -implicitDefEqProofs -dsimp [-head_L, -endOk]
      refine wpcall_q hH ?_; simp -implicitDefEqProofs -dsimp [-head_L, -endOk, hw2]
      refine wpcall_q hS ?_; simp -implicitDefEqProofs -dsimp [-head_L, -endOk]
      refine ⟨by omega, acc ++ s, e2, ⟨by omega, by omega, by simp -implicitDefEqProofs -dsimp; omega, hR⟩, by omega, ?_⟩
      simp -implicitDefEqProofs -dsimp
   ·have hP := partsQ_head (b := b) (m := 3) (e := e) (by rw [hh]; exact hc)
    have hH := iTrHeadE (b := b) (a := e) (c := 0) (by omega) (by rw [hh]; exact hc)
    rw [hh] at hH hP
    rw [hP] at hR; simp -implicitDefEqProofs -dsimp [pApp, textE] at hR; subst hR
    simp -implicitDefEqProofs -dsimp [-head_L]
    refine wpcall_q hN ?_; simp -implicitDefEqProofs -dsimp [-head_L]
    refine wpcall_q hH ?_; simp -implicitDefEqProofs -dsimp [-head_L, hc, trO, exA, codeE, tvU]
end Go.Proofs.YtlfblkekbcfjpaaGreatDoor
