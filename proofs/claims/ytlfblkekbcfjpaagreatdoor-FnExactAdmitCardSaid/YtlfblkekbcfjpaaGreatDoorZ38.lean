/- Part of a proof: contracts and plain laws. -/
import Derived.Test.YtlfblkekbcfjpaaGreatDoorZ36
import Derived.Test.YtlfblkekbcfjpaaGreatDoorZ37
set_option linter.unusedVariables false
set_option linter.unusedSimpArgs false
namespace Go.Proofs.YtlfblkekbcfjpaaGreatDoor
open Go
set_option maxRecDepth 100000
set_option maxHeartbeats 4000000
def nearG (n x : Int) : Option GVal := match nearP n x with
 | some p => some ⟨4, p.1, p.2, ⟨[].toArray⟩, []⟩
 | none => none
mutual
def halvG : GVal → Option GVal
 | ⟨k, n, x, s, l⟩ => if k = 3 ∨ k = 6 then nearG n x else match halvL l with
  | some l' => some ⟨k, n, x, s, l'⟩
  | none => none
def halvL : List GVal → Option (List GVal)
 | [] => some []
 | a :: l => match halvG a with
  | none => none
  | some a' => match halvL l with
   | none => none
   | some l' => some (a' :: l')
end
theorem halvG_num {v : GVal} (h : v.kind = 3 ∨ v.kind = 6) : halvG v = nearG v.n v.x := by cases v; simp only [halvG]; exact if_pos h
theorem halvG_not {v : GVal} (h : ¬ (v.kind = 3 ∨ v.kind = 6)) : halvG v = match halvL v.l with | some l' => some ⟨v.kind, v.n, v.x, v.s, l'⟩ | none => none := by cases v; simp only [halvG]; exact if_neg h
theorem halvL_cons (v : GVal) (l : List GVal) : halvL (v :: l) = match halvG v with | none => none | some a' => match halvL l with | none => none | some l' => some (a' :: l') := by rw [halvL]
theorem halvL_app : ∀ (a b : List GVal), halvL (a ++ b) = match halvL a with | none => none | some x => match halvL b with | none => none | some y => some (x ++ y)
 | [], b => by
  show halvL b = match halvL b with | none => none | some y => some ([] ++ y)
  cases halvL b <;> rfl
 | v :: a, b => by
  rw [List.cons_append, halvL_cons, halvL_cons, halvL_app a b]
  cases halvG v with
  | none => rfl
  | some v' =>
   cases halvL a with
   | none => rfl
   | some x =>
    cases halvL b <;> rfl
theorem halvL_step {l : List GVal} {k : Nat} (h : k < l.length) {ys : List GVal} (hy : halvL (l.take k) = some ys) : (∀ z, halvG l[k] = some z → halvL (l.take (k + 1)) = some (ys ++ [z])) ∧ (halvG l[k] = none → halvL l = none) := by
 have e1 : halvL (l.take (k + 1)) = match halvG l[k] with | none => none | some z => some (ys ++ [z]) := by
  rw [List.take_succ_eq_append_getElem h, halvL_app, hy]
  simp only [halvL]
  cases halvG l[k] <;> rfl
 refine ⟨fun z hz => by rw [e1, hz], fun hz => ?_⟩
 rw [hz] at e1
 have := halvL_app (l.take (k + 1)) (l.drop (k + 1))
 rw [List.take_append_drop, e1] at this
 exact this
theorem halv_len {l : List GVal} : ∀ {ys : List GVal}, halvL l = some ys → ys.length = l.length := by
 induction l with
 | nil => intro ys h; cases h; rfl
 | cons a l ih =>
  intro ys h
  unfold halvL at h
  cases h1 : halvG a with
  | none => rw [h1] at h; cases h
  | some a' =>
   rw [h1] at h; simp only at h
   cases h2 : halvL l with
   | none => rw [h2] at h; cases h
   | some l' => rw [h2] at h; cases h; simp +zeta [ih h2]
theorem cnt_halv (v : GVal) : ∀ w, halvG v = some w → cntG w ≤ cntG v := by
 induction v using GVal.ind with
 | h v ih =>
  intro w hw
  have hp : 1 ≤ cntG v := by rw [cntG_eq]; omega
  by_cases h : v.kind = 3 ∨ v.kind = 6
  ·rw [halvG_num h] at hw
   unfold nearG at hw
   split at hw
   ·cases hw; exact hp
   ·cases hw
  ·rw [halvG_not h] at hw
   have hl : ∀ (l ys : List GVal), (∀ k (h : k < l.length), ∀ w, halvG l[k] = some w → cntG w ≤ cntG l[k]) → halvL l = some ys → cntL ys ≤ cntL l := by
    intro l
    induction l with
    | nil => intro ys _ h; cases h; exact Nat.le_refl _
    | cons a l ih2 =>
     intro ys hh h
     unfold halvL at h
     cases h1 : halvG a with
     | none => rw [h1] at h; cases h
     | some a' =>
      rw [h1] at h; simp only at h
      cases h2 : halvL l with
      | none => rw [h2] at h; cases h
      | some l' =>
       rw [h2] at h; cases h
       have h3 := hh 0 (by simp +zeta) a' (by simpa using h1)
       have h4 := ih2 l' (fun k hk w hw => by have := hh (k + 1) (by simp +zeta; omega) w (by simpa using hw); simpa using this) h2
       simp only [List.getElem_cons_zero] at h3
       simp only [cntL]; omega
   cases h1 : halvL v.l with
   | none => rw [h1] at hw; cases hw
   | some l' =>
    rw [h1] at hw; cases hw
    have := hl v.l l' ih h1
    rw [cntG_eq, cntG_eq]; simp only; omega
def oG : Option GVal → GVal
 | some v => v
 | none => zeroG
theorem iClip {xs : List V} : Fn Tryz.prog 85 [.sl xs] [.un] [.sl xs] := by
 refine Fn_of Tryz.func85 rfl rfl (by simp -implicitDefEqProofs -dsimp) rfl ?_; simp only [Tryz.f85]
 simp -implicitDefEqProofs -dsimp
theorem iNearVal {k n x : Int} {s : ByteArray} {xs : List V} (hok : decOkP n x = true) : Fn Tryz.prog 84 [.ag [I k, I n, I x, S s, .sl xs]] [.un] [.ag [I 4, I (optF (nearP n x)).1.1, I (optF (nearP n x)).1.2, S .empty, .sl []], B (optF (nearP n x)).2] := by
 have hN := iNearFlt hok
 refine Fn_of Tryz.func84 rfl rfl (by simp -implicitDefEqProofs -dsimp) rfl ?_; simp only [Tryz.f84]
 simp -implicitDefEqProofs -dsimp
 refine wpcall_d hN ?_; simp -implicitDefEqProofs -dsimp
theorem iHalved : ∀ v : GVal, cntG v ≤ 8589934592 → okN v → Fn Tryz.prog 60 [vV v] [.un] [vV (oG (halvG v)), B (halvG v).isSome] := by
 intro v
 induction v using GVal.ind with
 | h v ih =>
  intro hv hk
  have hk2 := (okN_eq v).1 hk
  rw [cntG_eq] at hv
  have hlen := cntL_len v.l
  simp only [vV_eq]
  by_cases hn : v.kind = 3 ∨ v.kind = 6
  ·have hN := iNearVal (k := v.kind) (s := v.s) (xs := v.l.map vV) (hk2.1 hn)
   rw [halvG_num hn]
   unfold nearG
   rcases hr : nearP v.n v.x with _ | ⟨m, e⟩
   ·rw [hr] at hN; simp only [optF] at hN
    rcases hn with hn | hn
    all_goals
     rw [hn] at hN
     refine Fn_of Tryz.func60 rfl rfl (by simp -implicitDefEqProofs -dsimp) rfl ?_; simp only [Tryz.f60]
     simp -implicitDefEqProofs -dsimp [hn]
     refine wpcall_d hN ?_; simp -implicitDefEqProofs -dsimp [oG, zeroG]
   ·rw [hr] at hN; simp only [optF] at hN
    rcases hn with hn | hn
    all_goals
     rw [hn] at hN
     refine Fn_of Tryz.func60 rfl rfl (by simp -implicitDefEqProofs -dsimp) rfl ?_; simp only [Tryz.f60]
     simp -implicitDefEqProofs -dsimp [hn]
     refine wpcall_d hN ?_; simp -implicitDefEqProofs -dsimp [oG]
  ·have h3 : ¬ v.kind = 3 := fun h => hn (.inl h)
   have h6 : ¬ v.kind = 6 := fun h => hn (.inr h)
   generalize hR : halvG v = R
   rw [halvG_not hn] at hR
   refine Fn_of Tryz.func60 rfl rfl (by simp -implicitDefEqProofs -dsimp) rfl ?_; simp only [Tryz.f60]
   simp -implicitDefEqProofs -dsimp [h3, h6]
   refine WL_loop (fun p : Nat × List GVal => [(1, .blk [I v.kind, I v.n, I v.x, S v.s, .sl (v.l.map vV)]), (2, .blk [I 0, I 0, I 0, S .empty, .nil]), (3, B false), (6, .row p.2.isEmpty 27 (p.2.map vV)), (30, .sl (v.l.map vV)), (31, I v.l.length), (32, I p.1)]) (fun p => v.l.length - p.1) (fun p => p.1 ≤ v.l.length ∧ halvL (v.l.take p.1) = some p.2) (0, []) ⟨Nat.zero_le _, rfl⟩ ?_ ?_
   ·simp -implicitDefEqProofs -dsimp
   ·rintro ⟨k, ys⟩ ⟨hk3, hy⟩
    simp only at hk3 hy ⊢
    have hyl := halv_len hy
    rw [List.length_take] at hyl
    by_cases hk4 : k < v.l.length
    ·have hih := ih k hk4 (by have := cntG_get hk4; omega) (okNs_mem.1 hk2.2 _ (List.getElem_mem hk4))
     obtain ⟨st1, st2⟩ := halvL_step hk4 hy
     have k1 : (k : Int) < v.l.length := by omega
     have k2 : wrK .i64 ((k : Int) + 1) = k + 1 := wrap64_id _ (by omega)
     obtain ⟨x, hx⟩ : ∃ x, v.l[k] = x := ⟨_, rfl⟩
     rw [hx] at hih st1 st2
     have hb9 : (ys.length + 1) * 64 ≤ 1099511627776 := by omega
     rcases hz : halvG x with _ | z
     ·have hN := st2 hz
      rw [hN] at hR; simp only at hR; subst hR
      rw [hz] at hih; simp only [vV_eq, oG, Option.isSome] at hih
      simp -implicitDefEqProofs -dsimp [-head_L, k1, hk4, hx]
      refine wpcall_d hih ?_; simp -implicitDefEqProofs -dsimp [-head_L, oG, zeroG]
     ·have ht := st1 z hz
      rw [hz] at hih; simp only [vV_eq, oG, Option.isSome] at hih
      simp -implicitDefEqProofs -dsimp [-head_L, -endOk, k1, hk4, hx]
      refine wpcall_d hih ?_; simp -implicitDefEqProofs -dsimp [-head_L, -endOk, k2, hb9]
      refine ⟨k + 1, ys ++ [z], ⟨by omega, ht⟩, by omega, ?_⟩
      simp -implicitDefEqProofs -dsimp
    ·obtain rfl : k = v.l.length := by omega
     rw [List.take_length] at hy
     rw [hy] at hR; simp only at hR; subst hR
     simp -implicitDefEqProofs -dsimp [-head_L]
     refine wpcall_q (iClip (xs := ys.map vV)) ?_; simp -implicitDefEqProofs -dsimp [-head_L, oG]
theorem sHalved : ∀ v : GVal, cntG v ≤ 8589934592 → okN v → Fn Tryz.prog 54 [vV v] [.un] [vV (oG (halvG v)), B (halvG v).isSome] := by
 intro v
 induction v using GVal.ind with
 | h v ih =>
  intro hv hk
  have hk2 := (okN_eq v).1 hk
  rw [cntG_eq] at hv
  have hlen := cntL_len v.l
  simp only [vV_eq]
  by_cases hn : v.kind = 3 ∨ v.kind = 6
  ·have hN := sNearFlt (hk2.1 hn)
   rw [halvG_num hn]
   unfold nearG
   rcases hr : nearP v.n v.x with _ | ⟨m, e⟩
   ·rw [hr] at hN; simp only [optF] at hN
    rcases hn with hn | hn
    all_goals
     refine Fn_of Tryz.func54 rfl rfl (by simp -implicitDefEqProofs -dsimp) rfl ?_; simp only [Tryz.f54]
     simp -implicitDefEqProofs -dsimp [hn]
     refine wpcall_d hN ?_; simp -implicitDefEqProofs -dsimp [oG, zeroG]
   ·rw [hr] at hN; simp only [optF] at hN
    have hV := sFltVal (m := m) (e := e)
    rcases hn with hn | hn
    all_goals
     refine Fn_of Tryz.func54 rfl rfl (by simp -implicitDefEqProofs -dsimp) rfl ?_; simp only [Tryz.f54]
     simp -implicitDefEqProofs -dsimp [hn]
     refine wpcall_d hN ?_; simp -implicitDefEqProofs -dsimp
     refine wpcall_d hV ?_; simp -implicitDefEqProofs -dsimp [oG, vF]
  ·have h3 : ¬ v.kind = 3 := fun h => hn (.inl h)
   have h6 : ¬ v.kind = 6 := fun h => hn (.inr h)
   generalize hR : halvG v = R
   rw [halvG_not hn] at hR
   refine Fn_of Tryz.func54 rfl rfl (by simp -implicitDefEqProofs -dsimp) rfl ?_; simp only [Tryz.f54]
   simp -implicitDefEqProofs -dsimp [h3, h6]
   refine WL_loop (fun p : Nat × List GVal => [(1, .blk [I v.kind, I v.n, I v.x, S v.s, .sl (v.l.map vV)]), (2, .blk [I 0, I 0, I 0, S .empty, .nil]), (3, B false), (6, .blk [I v.kind, I v.n, I v.x, S v.s, .row false 27 (p.2.map vV)]), (7, I p.1)]) (fun p => v.l.length - p.1) (fun p => p.1 ≤ v.l.length ∧ halvL (v.l.take p.1) = some p.2) (0, []) ⟨Nat.zero_le _, rfl⟩ ?_ ?_
   ·simp -implicitDefEqProofs -dsimp
   ·rintro ⟨k, ys⟩ ⟨hk3, hy⟩
    simp only at hk3 hy ⊢
    have hyl := halv_len hy
    rw [List.length_take] at hyl
    by_cases hk4 : k < v.l.length
    ·have hih := ih k hk4 (by have := cntG_get hk4; omega) (okNs_mem.1 hk2.2 _ (List.getElem_mem hk4))
     obtain ⟨st1, st2⟩ := halvL_step hk4 hy
     have k1 : (k : Int) < v.l.length := by omega
     have k2 : wrK .i64 ((k : Int) + 1) = k + 1 := wrap64_id _ (by omega)
     obtain ⟨x, hx⟩ : ∃ x, v.l[k] = x := ⟨_, rfl⟩
     rw [hx] at hih st1 st2
     have hb9 : (ys.length + 1) * 64 ≤ 1099511627776 := by omega
     rcases hz : halvG x with _ | z
     ·have hN := st2 hz
      rw [hN] at hR; simp only at hR; subst hR
      rw [hz] at hih; simp only [vV_eq, oG, Option.isSome] at hih
      simp -implicitDefEqProofs -dsimp [-head_L, k1, hk4, hx]
      refine wpcall_d hih ?_; simp -implicitDefEqProofs -dsimp [-head_L, oG, zeroG]
     ·have ht := st1 z hz
      rw [hz] at hih; simp only [vV_eq, oG, Option.isSome] at hih
      simp -implicitDefEqProofs -dsimp [-head_L, -endOk, k1, hk4, hx]
      refine wpcall_d hih ?_; simp -implicitDefEqProofs -dsimp [-head_L, -endOk, k2, hb9]
      refine ⟨k + 1, ys ++ [z], ⟨by omega, ht⟩, by omega, ?_⟩
      simp -implicitDefEqProofs -dsimp
    ·obtain rfl : k = v.l.length := by omega
     rw [List.take_length] at hy
     rw [hy] at hR; simp only at hR; subst hR
     simp -implicitDefEqProofs -dsimp [-head_L, oG]
end Go.Proofs.YtlfblkekbcfjpaaGreatDoor
