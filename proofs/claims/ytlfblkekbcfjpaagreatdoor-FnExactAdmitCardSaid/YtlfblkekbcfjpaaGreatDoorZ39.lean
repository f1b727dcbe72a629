/- Part of a proof: contracts and plain laws. -/
import Derived.Test.YtlfblkekbcfjpaaGreatDoorZ35
import Derived.Test.YtlfblkekbcfjpaaGreatDoorZ28
set_option linter.unusedVariables false
set_option linter.unusedSimpArgs false
namespace Go.Proofs.YtlfblkekbcfjpaaGreatDoor
open Go
set_option maxRecDepth 100000
set_option maxHeartbeats 4000000
theorem iIsPaired {k n x : Int} {s : ByteArray} {xs : List V} : Fn Tryz.prog 131 [.ag [I k, I n, I x, S s, .sl xs]] [.un] [B (decide (k = 10) && decide (xs.length % 2 = 0))] := by
 by_cases h : k = 10
 ·by_cases h2 : xs.length % 2 = 0
  ·have h3 : (xs.length : Int) % 2 = 0 := by omega
   refine Fn_of Tryz.func131 rfl rfl (by simp -implicitDefEqProofs -dsimp) rfl ?_; simp only [Tryz.f131]
   simp -implicitDefEqProofs -dsimp [h, h2, h3]; repeat' (first | with_reducible intro _ | with_reducible apply And.intro | (refine chkOk ?_; kernel_rfl))
  ·have h3 : ¬ (xs.length : Int) % 2 = 0 := by omega
   have h4 : (xs.length : Int) % 2 = 1 := by omega
   refine Fn_of Tryz.func131 rfl rfl (by simp -implicitDefEqProofs -dsimp) rfl ?_; simp only [Tryz.f131]
   simp -implicitDefEqProofs -dsimp [h, h2, h3, h4]; repeat' (first | with_reducible intro _ | with_reducible apply And.intro | (refine chkOk ?_; kernel_rfl))
 ·refine Fn_of Tryz.func131 rfl rfl (by simp -implicitDefEqProofs -dsimp) rfl ?_; simp only [Tryz.f131]
  simp -implicitDefEqProofs -dsimp [h]; repeat' (first | with_reducible intro _ | with_reducible apply And.intro | (refine chkOk ?_; kernel_rfl))
theorem sl7Map {k n x : Int} {s : ByteArray} {xs : List V} : Fn Tryz.prog 77 [.ag [I k, I n, I x, S s, .sl xs]] [.un] [B (decide (k = 10) && decide (xs.length % 2 = 0))] := by
 by_cases h : k = 10
 ·by_cases h2 : xs.length % 2 = 0
  ·have h3 : (xs.length : Int) % 2 = 0 := by omega
   refine Fn_of Tryz.func77 rfl rfl (by simp -implicitDefEqProofs -dsimp) rfl ?_; simp only [Tryz.f77]
   simp -implicitDefEqProofs -dsimp [h, h2, h3]; repeat' (first | with_reducible intro _ | with_reducible apply And.intro | (refine chkOk ?_; kernel_rfl))
  ·have h3 : ¬ (xs.length : Int) % 2 = 0 := by omega
   have h4 : (xs.length : Int) % 2 = 1 := by omega
   refine Fn_of Tryz.func77 rfl rfl (by simp -implicitDefEqProofs -dsimp) rfl ?_; simp only [Tryz.f77]
   simp -implicitDefEqProofs -dsimp [h, h2, h3, h4]; repeat' (first | with_reducible intro _ | with_reducible apply And.intro | (refine chkOk ?_; kernel_rfl))
 ·refine Fn_of Tryz.func77 rfl rfl (by simp -implicitDefEqProofs -dsimp) rfl ?_; simp only [Tryz.f77]
  simp -implicitDefEqProofs -dsimp [h]; repeat' (first | with_reducible intro _ | with_reducible apply And.intro | (refine chkOk ?_; kernel_rfl))
theorem iLast {ps : List (GVal × Value)} {i : Nat} {p : GVal × Value} (hl : ps.length ≤ 8589934592) (hi : i < ps.length) (hp : ps[i] = p) (hc : ∀ q ∈ ps, cntG q.1 ≤ 1099511627776) :
  Fn Tryz.prog 132 [.sl (ps.map pV), I i] [.un, .un] [B (!later Prod.fst p.1 (ps.drop (i + 2)))] := by
 generalize hR : (!later Prod.fst p.1 (ps.drop (i + 2))) = R
 have hpc := hc p (hp ▸ List.getElem_mem hi)
 have hw0 : wrK .i64 ((i : Int) + 2) = ((i + 2 : Nat) : Int) := by rw [wrap64_id _ (by omega)]; omega
 have hi' : (i : Int) < ps.length := by omega
 refine Fn_of Tryz.func132 rfl rfl (by simp -implicitDefEqProofs -dsimp) rfl ?_; simp only [Tryz.f132]
 simp -implicitDefEqProofs -dsimp [hw0]
 refine WL_loop (fun k : Nat => [(0, .sl (ps.map pV)), (1, I i), (4, B false), (5, I k)]) (fun k => ps.length + 1 - k) (fun k => k ≤ ps.length + 1 ∧ (!later Prod.fst p.1 (ps.drop k)) = R) (i + 2) ⟨by omega, hR⟩ ?_ ?_
 ·simp -implicitDefEqProofs -dsimp
 ·clear hR
  rintro k ⟨hk, hR⟩
  have hw1 : wrK .i64 ((k : Int) + 2) = ((k + 2 : Nat) : Int) := by rw [wrap64_id _ (by omega)]; omega
  by_cases hk2 : k < ps.length
  ·have hk3 : (k : Int) < ps.length := by omega
   obtain ⟨q, hq⟩ : ∃ q, ps[k] = q := ⟨_, rfl⟩
   have hqc := hc q (hq ▸ List.getElem_mem hk2)
   have hS := iSameVal q.1 hqc p.1 hpc
   rw [later_at Prod.fst hk2, hq] at hR
   simp only [vV_eq] at hS
   by_cases hqp : q.1 = p.1
   ·rw [decide_eq_true hqp] at hS hR
    simp at hR; subst hR
    simp -implicitDefEqProofs -dsimp [-head_L, hk2, hk3, hi, hi', hp, hq, pV]
    refine wpcall_q hS ?_; simp -implicitDefEqProofs -dsimp [-head_L]
    refine chkOk ?_; kernel_rfl
   ·rw [decide_eq_false hqp] at hS hR
    simp at hR
    simp -implicitDefEqProofs -dsimp [-head_L, -endOk, hk2, hk3, hi, hi', hp, hq, pV]
    refine wpcall_q hS ?_; simp -implicitDefEqProofs -dsimp [-head_L, -endOk, hw1]
    refine ⟨?_, k + 2, ⟨by omega, by simpa using hR⟩, by omega, ?_⟩
    ·refine chkOk ?_; kernel_rfl
    ·simp -implicitDefEqProofs -dsimp
  ·have hk3 : ¬ (k : Int) < ps.length := by omega
   rw [later_end Prod.fst (by omega)] at hR
   simp at hR; subst hR
   simp -implicitDefEqProofs -dsimp [-head_L, hk3]
theorem iLastPairs0 {ps : List (GVal × Value)} {k n x : Int} {s : ByteArray} (hl : ps.length ≤ 8589934592) (hc : ∀ q ∈ ps, cntG q.1 ≤ 1099511627776) :
  ∃ dd, Fn Tryz.prog 86 [.ag [I k, I n, I x, S s, .row false 27 (ps.map pV)]] [.un] [.ag [I k, I n, I x, S s, .row dd 27 ((if k = 10 ∧ ps.length % 2 = 0 then keepF Prod.fst ps else ps).map pV)]] := by
 have hI := iIsPaired (k := k) (n := n) (x := x) (s := s) (xs := ps.map pV)
 rw [List.length_map] at hI
 by_cases h : k = 10 ∧ ps.length % 2 = 0
 ·rw [if_pos h]
  obtain ⟨rfl, hev⟩ := h
  rw [decide_eq_true rfl, decide_eq_true hev] at hI
  generalize hK : keepF Prod.fst ps = K
  refine ⟨K.isEmpty, ?_⟩
  refine Fn_of Tryz.func86 rfl rfl (by simp -implicitDefEqProofs -dsimp) rfl ?_; simp only [Tryz.f86]
  simp -implicitDefEqProofs -dsimp
  refine wpcall_q hI ?_; simp -implicitDefEqProofs -dsimp
  refine WL_loop (fun q : List (GVal × Value) × Nat => [(1, .blk [I 10, I n, I x, S s, .row false 27 (ps.map pV)]), (2, .blk [I 0, I 0, I 0, S .empty, .nil]), (3, .row q.1.isEmpty 27 (q.1.map pV)), (4, I q.2)]) (fun q => ps.length - q.2) (fun q => q.2 ≤ ps.length ∧ q.2 % 2 = 0 ∧ q.1.length ≤ q.2 ∧ q.1 ++ keepF Prod.fst (ps.drop q.2) = K) ([], 0) ⟨Nat.zero_le _, rfl, Nat.le_refl _, by simpa using hK⟩ ?_ ?_
  ·simp -implicitDefEqProofs -dsimp
  ·clear hK
   rintro ⟨qs, i⟩ ⟨hi, hie, hql, hK⟩
   simp only at hi hie hql hK ⊢
   have hw1 : wrK .i64 ((i : Int) + 2) = ((i + 2 : Nat) : Int) := by rw [wrap64_id _ (by omega)]; omega
   have hw2 : wrK .i64 ((i : Int) + 1) = ((i + 1 : Nat) : Int) := by rw [wrap64_id _ (by omega)]; omega
   by_cases hi2 : i < ps.length
   ·have hi3 : (i : Int) < ps.length := by omega
    have hi4 : i + 1 < ps.length := by omega
    have hi5 : (i : Int) + 1 < ps.length := by omega
    have hw3 : (((i : Int) + 1).toNat) = i + 1 := by omega
    have hi6 : 0 ≤ (i : Int) + 1 := by omega
    obtain ⟨p, hp⟩ : ∃ p, ps[i] = p := ⟨_, rfl⟩
    obtain ⟨p', hp'⟩ : ∃ p', ps[i + 1] = p' := ⟨_, rfl⟩
    have hL := iLast hl hi2 hp hc
    have hb9 : (qs.length + 2) * 64 ≤ 1099511627776 := by omega
    rw [keepF_at Prod.fst hi4, hp, hp'] at hK
    cases hla : later Prod.fst p.1 (ps.drop (i + 2)) with
    | true =>
     rw [hla] at hL
     rw [if_pos hla] at hK
     simp -implicitDefEqProofs -dsimp [-head_L, -endOk, hi3]
     refine wpcall_q hL ?_; simp -implicitDefEqProofs -dsimp [-head_L, -endOk, hw1]
     refine ⟨qs, i + 2, ⟨by omega, by omega, by omega, hK⟩, by omega, ?_⟩
     simp -implicitDefEqProofs -dsimp
    | false =>
     rw [hla] at hL
     rw [if_neg (by rw [hla]; decide)] at hK
     simp -implicitDefEqProofs -dsimp [-head_L, -endOk, hi3]
     refine wpcall_q hL ?_; simp -implicitDefEqProofs -dsimp [-head_L, -endOk, hw1, hw2, hw3, hi2, hi3, hi4, hi5, hi6, hp, hp', pV, hb9]
     refine ⟨?_, qs ++ [p, p'], i + 2, ⟨by omega, by omega, by simp -implicitDefEqProofs -dsimp; omega, by simpa using hK⟩, by omega, ?_⟩
     ·refine chkOk ?_; kernel_rfl
     ·simp -implicitDefEqProofs -dsimp [pV]
   ·have hi3 : ¬ (i : Int) < ps.length := by omega
    rw [keepF_end Prod.fst (by omega), List.append_nil] at hK
    subst hK
    simp -implicitDefEqProofs -dsimp [-head_L, hi3]
 ·rw [if_neg h]
  have hf : (decide (k = 10) && decide (ps.length % 2 = 0)) = false := by
   rw [Bool.eq_false_iff]; intro hh; simp at hh; exact h hh
  rw [hf] at hI
  refine ⟨false, ?_⟩
  refine Fn_of Tryz.func86 rfl rfl (by simp -implicitDefEqProofs -dsimp) rfl ?_; simp only [Tryz.f86]
  simp -implicitDefEqProofs -dsimp
  refine wpcall_q hI ?_; simp -implicitDefEqProofs -dsimp
theorem iLastPairs {v : GVal} (hl : v.l.length ≤ 8589934592) (hc : ∀ q ∈ v.l, cntG q ≤ 1099511627776) : Fn Tryz.prog 86 [vF 27 v] [.un] [vF 27 (oneP v)] := by
 refine Fn_pin fun ps hps => ?_
 have hlen : ps.length = v.l.length := by rw [← hps]; simp -implicitDefEqProofs -dsimp
 obtain ⟨dd, h⟩ := iLastPairs0 (ps := ps) (k := v.kind) (n := v.n) (x := v.x) (s := v.s) (by omega) (fun q hq => hc q.1 (by rw [← hps]; exact List.mem_map.2 ⟨q, hq, rfl⟩))
 rw [hlen] at h
 unfold oneP
 by_cases h2 : v.kind = 10 ∧ v.l.length % 2 = 0
 ·rw [if_pos h2] at h ⊢
  exact ⟨_, keepF_sub _ _, by rw [← hps]; exact (keepF_map Prod.fst ps).symm, dd, h⟩
 ·rw [if_neg h2] at h ⊢
  exact ⟨_, List.Sublist.refl _, hps, dd, h⟩
end Go.Proofs.YtlfblkekbcfjpaaGreatDoor
namespace Go.Proofs.YtlfblkekbcfjpaaGreatDoor
open Go
set_option maxRecDepth 100000
set_option maxHeartbeats 4000000
theorem cnt_mem {l : List GVal} {q : GVal} (h : q ∈ l) : cntG q ≤ cntL l := by
 obtain ⟨k, hk, rfl⟩ := List.getElem_of_mem h
 exact cntG_get hk
theorem cnt_once_mem {l : List GVal} {q : GVal} (h : q ∈ l.map onceG) : cntG q ≤ cntL l := by
 obtain ⟨p, hp, rfl⟩ := List.mem_map.1 h
 exact Nat.le_trans (cnt_once p) (cnt_mem hp)
theorem take_once {l : List GVal} {k : Nat} (h : k < l.length) : (l.take (k + 1)).map onceG = (l.take k).map onceG ++ [onceG l[k]] := by
 rw [List.take_succ_eq_append_getElem h, List.map_append]; rfl
theorem once_G (l : List GVal) : ∃ G : Nat → List GVal, G 0 = [] ∧ (∀ k (h : k < l.length), G (k + 1) = G k ++ [onceG l[k]]) ∧ G l.length = l.map onceG ∧ ∀ k, k ≤ l.length → (G k).length = k :=
 ⟨fun k => (l.take k).map onceG, rfl, fun k h => take_once h, by simp +zeta, fun k h => by simp +zeta; omega⟩
theorem iOnceLast : ∀ v : GVal, cntG v ≤ 8589934592 → Fn Tryz.prog 61 [vV v] [.un] [vF 27 (onceG v)] := by
 intro v
 induction v using GVal.ind with
 | h v ih =>
  intro hv
  rw [cntG_eq] at hv
  have hlen := cntL_len v.l
  simp only [vV_eq]
  rw [onceG_eq]
  have hL := iLastPairs (v := ⟨v.kind, v.n, v.x, v.s, v.l.map onceG⟩) (by simp +zeta; omega) (fun q hq => by have := cnt_once_mem hq; omega)
  obtain ⟨G, hG0, hG1, hG2, hG3⟩ := once_G v.l
  rw [← hG2] at hL ⊢
  generalize oneP ⟨v.kind, v.n, v.x, v.s, G v.l.length⟩ = R at *
  simp only [vF] at hL ⊢
  refine Fn_of Tryz.func61 rfl rfl (by simp -implicitDefEqProofs -dsimp) rfl ?_; simp only [Tryz.f61]
  simp -implicitDefEqProofs -dsimp
  refine WL_loop (fun k : Nat => [(1, .blk [I v.kind, I v.n, I v.x, S v.s, .sl (v.l.map vV)]), (2, .blk [I 0, I 0, I 0, S .empty, .nil]), (3, .row true 27 ((G k).map vV)), (8, .sl (v.l.map vV)), (9, I v.l.length), (10, I k)]) (fun k => v.l.length - k) (fun k => k ≤ v.l.length) 0 (Nat.zero_le _) ?_ ?_
  ·simp -implicitDefEqProofs -dsimp [hG0]
  ·intro k hk
   by_cases hk2 : k < v.l.length
   ·have hih := ih k hk2 (by have := cntG_get hk2; omega)
    have ht := hG1 k hk2
    have k1 : (k : Int) < v.l.length := by omega
    have k2 : wrK .i64 ((k : Int) + 1) = k + 1 := wrap64_id _ (by omega)
    simp only [vV_eq, vF] at hih
    obtain ⟨x, hx2⟩ : ∃ x, v.l[k] = x := ⟨_, rfl⟩
    rw [hx2] at hih ht
    have hb9 : ((G k).length + 1) * 64 ≤ 1099511627776 := by rw [hG3 k hk]; omega
    simp -implicitDefEqProofs -dsimp [-head_L, -endOk, k1, hk2, hx2]
    refine wpcall_d hih ?_; simp -implicitDefEqProofs -dsimp [-head_L, -endOk, k2, hb9]
    refine ⟨k + 1, by omega, by omega, ?_⟩
    simp -implicitDefEqProofs -dsimp [ht]
   ·obtain rfl : k = v.l.length := by omega
    simp -implicitDefEqProofs -dsimp [-head_L]
    refine wpcall_q hL ?_; simp -implicitDefEqProofs -dsimp [-head_L]
end Go.Proofs.YtlfblkekbcfjpaaGreatDoor
namespace Go.Proofs.YtlfblkekbcfjpaaGreatDoor
open Go
set_option maxRecDepth 100000
set_option maxHeartbeats 4000000
theorem sOnceLast : ∀ v : GVal, cntG v ≤ 8589934592 → Fn Tryz.prog 55 [vV v] [.un] [vV (onceG v)] := by
 intro v
 induction v using GVal.ind with
 | h v ih =>
  intro hv
  rw [cntG_eq] at hv
  have hlen := cntL_len v.l
  rw [onceG_eq]
  simp only [vV_eq]
  have hI := sl7Map (k := v.kind) (n := v.n) (x := v.x) (s := v.s) (xs := v.l.map vV)
  rw [List.length_map] at hI
  obtain ⟨G, hG0, hG1, hG2, hG3⟩ := once_G v.l
  have hcm : ∀ q ∈ G v.l.length, cntG q ≤ 1099511627776 := fun q hq => by rw [hG2] at hq; have := cnt_once_mem hq; omega
  rw [← hG2]
  have hone : oneP ⟨v.kind, v.n, v.x, v.s, G v.l.length⟩ = ⟨v.kind, v.n, v.x, v.s, if v.kind = 10 ∧ v.l.length % 2 = 0 then keepF id (G v.l.length) else G v.l.length⟩ := by
   unfold oneP; simp only [hG3 _ (Nat.le_refl _)]; split <;> rfl
  rw [hone]
  simp only
  refine Fn_of Tryz.func55 rfl rfl (by simp -implicitDefEqProofs -dsimp) rfl ?_; simp only [Tryz.f55]
  simp -implicitDefEqProofs -dsimp
  refine WL_loop (fun k : Nat => [(1, .blk [I v.kind, I v.n, I v.x, S v.s, .sl (v.l.map vV)]), (2, .blk [I 0, I 0, I 0, S .empty, .nil]), (3, .blk [I v.kind, I v.n, I v.x, S v.s, .row false 27 ((G k).map vV)]), (4, I k)]) (fun k => v.l.length - k) (fun k => k ≤ v.l.length) 0 (Nat.zero_le _) ?_ ?_
  ·simp -implicitDefEqProofs -dsimp [hG0]
  ·intro k hk
   by_cases hk2 : k < v.l.length
   ·have hih := ih k hk2 (by have := cntG_get hk2; omega)
    have ht := hG1 k hk2
    have k1 : (k : Int) < v.l.length := by omega
    have k2 : wrK .i64 ((k : Int) + 1) = k + 1 := wrap64_id _ (by omega)
    simp only [vV_eq] at hih
    obtain ⟨x, hx2⟩ : ∃ x, v.l[k] = x := ⟨_, rfl⟩
    rw [hx2] at hih ht
    have hb9 : ((G k).length + 1) * 64 ≤ 1099511627776 := by rw [hG3 k hk]; omega
    simp -implicitDefEqProofs -dsimp [-head_L, -endOk, k1, hk2, hx2]
    refine wpcall_d hih ?_; simp -implicitDefEqProofs -dsimp [-head_L, -endOk, k2, hb9]
    refine ⟨k + 1, by omega, by omega, ?_⟩
    simp -implicitDefEqProofs -dsimp [ht]
   ·obtain rfl : k = v.l.length := by omega
    have hGl := hG3 _ hk
    generalize G v.l.length = L at *
    by_cases hm : v.kind = 10 ∧ v.l.length % 2 = 0
    ·rw [if_pos hm]
     obtain ⟨hk10, hev⟩ := hm
     rw [decide_eq_true hk10, decide_eq_true hev] at hI
     rw [hk10] at hI
     have hlb : L.length ≤ 8589934592 := by omega
     clear hone hv
     generalize hK : keepF id L = K
     simp -implicitDefEqProofs -dsimp [-head_L, hk10]
     refine wpcall_d hI ?_; simp -implicitDefEqProofs -dsimp [-head_L]
     rw [← hGl] at hev hlen
     clear hGl hG1 hG2 hG3 hG0 hI ih
     refine WL_loop (fun q : List GVal × Nat => [(2, .blk [I 0, I 0, I 0, S .empty, .nil]), (3, .blk [I 10, I v.n, I v.x, S v.s, .row false 27 (L.map vV)]), (6, .row q.1.isEmpty 27 (q.1.map vV)), (7, I q.2)]) (fun q => L.length - q.2) (fun q => q.2 ≤ L.length ∧ q.2 % 2 = 0 ∧ q.1.length ≤ q.2 ∧ q.1 ++ keepF id (L.drop q.2) = K) ([], 0) ⟨Nat.zero_le _, rfl, Nat.le_refl _, by simpa using hK⟩ ?_ ?_
     ·simp -implicitDefEqProofs -dsimp
     ·clear hK
      rintro ⟨qs, i⟩ ⟨hi, hie, hql, hK⟩
      simp only at hi hie hql hK ⊢
      have hw1 : wrK .i64 ((i : Int) + 2) = ((i + 2 : Nat) : Int) := by rw [wrap64_id _ (by omega)]; omega
      have hw2 : wrK .i64 ((i : Int) + 1) = ((i + 1 : Nat) : Int) := by rw [wrap64_id _ (by omega)]; omega
      by_cases hi2 : i < L.length
      ·have hi3 : (i : Int) < L.length := by omega
       have hi4 : i + 1 < L.length := by omega
       have hi5 : (i : Int) + 1 < L.length := by omega
       have hw3 : (((i : Int) + 1).toNat) = i + 1 := by omega
       have hi6 : 0 ≤ (i : Int) + 1 := by omega
       obtain ⟨p, hp⟩ : ∃ p, L[i] = p := ⟨_, rfl⟩
       obtain ⟨p', hp'⟩ : ∃ p', L[i + 1] = p' := ⟨_, rfl⟩
       have hpc := hcm p (hp ▸ List.getElem_mem hi2)
       have hb9 : (qs.length + 2) * 64 ≤ 1099511627776 := by omega
       rw [keepF_at id hi4, hp, hp'] at hK
       simp only [id_eq] at hK
       obtain ⟨r, hLt⟩ : ∃ r, later id p (L.drop (i + 2)) = r := ⟨_, rfl⟩
       simp only [hLt] at hK
       simp -implicitDefEqProofs -dsimp [-head_L, -endOk, hi3, hw1]
       refine WL_loop (fun q : Bool × Nat => [(2, .blk [I 0, I 0, I 0, S .empty, .nil]), (3, .blk [I 10, I v.n, I v.x, S v.s, .row false 27 (L.map vV)]), (6, .row qs.isEmpty 27 (qs.map vV)), (7, I i), (8, B q.1), (9, I q.2)]) (fun q => L.length + 1 - q.2) (fun q => q.2 ≤ L.length + 1 ∧ (q.1 || later id p (L.drop q.2)) = r) (false, i + 2) ⟨by simp only; omega, by simpa using hLt⟩ ?_ ?_
       ·simp -implicitDefEqProofs -dsimp
       ·clear hLt
        rintro ⟨a, k⟩ ⟨hk9, hr⟩
        simp only at hk9 hr ⊢
        have hw9 : wrK .i64 ((k : Int) + 2) = ((k + 2 : Nat) : Int) := by rw [wrap64_id _ (by omega)]; omega
        by_cases hk2 : k < L.length
        ·have hk3 : (k : Int) < L.length := by omega
         obtain ⟨q, hq⟩ : ∃ q, L[k] = q := ⟨_, rfl⟩
         have hqc := hcm q (hq ▸ List.getElem_mem hk2)
         rw [later_at id hk2, hq] at hr
         simp only [id_eq] at hr
         cases a with
         | true =>
          simp -implicitDefEqProofs -dsimp [-head_L, -endOk, hk2, hk3, hi2, hi3, hp, hq]
          refine WC_nr [B false] (by simp -implicitDefEqProofs -dsimp) ?_; simp -implicitDefEqProofs -dsimp [-head_L, -endOk, -Bool.exists_bool, hw9]
          refine ⟨?_, true, k + 2, ⟨by omega, by simpa using hr⟩, by omega, ?_⟩
          ·refine chkOk ?_; kernel_rfl
          ·simp -implicitDefEqProofs -dsimp
         | false =>
          have hS := sSameVal p hpc q hqc
          simp only [vV_eq] at hS
          have he : decide (p = q) = decide (q = p) := by rw [decide_eq_decide]; exact eq_comm
          rw [he] at hS
          generalize decide (q = p) = t at hS hr
          simp -implicitDefEqProofs -dsimp [-head_L, -endOk, hk2, hk3, hi2, hi3, hp, hq]
          refine wpcall_d hS ?_; simp -implicitDefEqProofs -dsimp [-head_L, -endOk, -Bool.exists_bool, hw9]
          refine ⟨?_, t, k + 2, ⟨by omega, by simpa using hr⟩, by omega, ?_⟩
          ·refine chkOk ?_; kernel_rfl
          ·simp -implicitDefEqProofs -dsimp
        ·have hk3 : ¬ (k : Int) < L.length := by omega
         rw [later_end id (by omega), Bool.or_false] at hr
         subst hr
         cases a with
         | true =>
          rw [if_pos rfl] at hK
          simp -implicitDefEqProofs -dsimp [-head_L, -endOk, hk3, hw1]
          refine ⟨qs, i + 2, ⟨by omega, by omega, by omega, hK⟩, by omega, ?_⟩
          simp -implicitDefEqProofs -dsimp
         | false =>
          rw [if_neg (by decide)] at hK
          simp -implicitDefEqProofs -dsimp [-head_L, -endOk, hk3, hw1, hw2, hw3, hi2, hi3, hi4, hi5, hi6, hp, hp', hb9]
          refine ⟨?_, qs ++ [p, p'], i + 2, ⟨by omega, by omega, by simp -implicitDefEqProofs -dsimp; omega, by simpa using hK⟩, by omega, ?_⟩
          ·refine chkOk ?_; kernel_rfl
          ·simp -implicitDefEqProofs -dsimp
      ·have hi3 : ¬ (i : Int) < L.length := by omega
       rw [keepF_end id (by omega), List.append_nil] at hK
       subst hK
       simp -implicitDefEqProofs -dsimp [-head_L, hi3, hk10]
    ·rw [if_neg hm]
     have hf : (decide (v.kind = 10) && decide (v.l.length % 2 = 0)) = false := by
      rw [Bool.eq_false_iff]; intro hh; simp at hh; exact hm hh
     rw [hf] at hI
     simp -implicitDefEqProofs -dsimp [-head_L]
     refine wpcall_d hI ?_; simp -implicitDefEqProofs -dsimp [-head_L]
end Go.Proofs.YtlfblkekbcfjpaaGreatDoor
