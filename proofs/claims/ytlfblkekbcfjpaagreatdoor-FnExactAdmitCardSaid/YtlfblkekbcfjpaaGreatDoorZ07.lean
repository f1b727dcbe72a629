/- Part of a proof: contracts and plain laws. -/
import Derived.Test.YtlfblkekbcfjpaaGreatDoorZ06
set_option linter.unusedVariables false
set_option linter.unusedSimpArgs false
namespace Go.Proofs.YtlfblkekbcfjpaaGreatDoor
open Go.RowKit
theorem getD_mem (l : List V) {j : Nat} (h : j < l.length) : l.getD j .un ∈ l := by simp -implicitDefEqProofs -dsimp [List.getD, h]
theorem okO_at : ∀ {ys outs : List V}, okO ys outs = true → outs.length = ys.length ∧ ∀ i, (∀ zs, ys.getD i .un = .blk zs → ∃ cs, outs.getD i .un = .blk cs ∧ cs.all okC = true) ∧ ((∀ zs, ys.getD i .un ≠ .blk zs) → outs.getD i .un = .un)
 | [], [], _ => ⟨rfl, fun i => ⟨fun zs h => by simp at h, fun _ => by simp⟩⟩
 | [], _ :: _, h => by simp -implicitDefEqProofs -dsimp [okO] at h
 | y :: ys, [], h => by cases y <;> simp -implicitDefEqProofs -dsimp [okO] at h
 | y :: ys, o :: os, h => by
  unfold okO at h
  split at h
  ·rename_i h1 h2
   simp only [List.cons.injEq] at h1 h2
   obtain ⟨rfl, rfl⟩ := h1
   obtain ⟨rfl, rfl⟩ := h2
   rw [Bool.and_eq_true] at h
   obtain ⟨h3, h4⟩ := okO_at h.2
   refine ⟨by simp -implicitDefEqProofs -dsimp [h3], fun i => ?_⟩
   cases i with
   | zero => exact ⟨fun zs _ => ⟨_, rfl, h.1⟩, fun hn => absurd rfl (hn _)⟩
   | succ i => simpa using h4 i
  ·cases h
  ·rename_i h1 h2
   simp only [List.cons.injEq] at h1 h2
   obtain ⟨rfl, rfl⟩ := h1
   obtain ⟨rfl, rfl⟩ := h2
   rename_i hnb
   obtain ⟨h3, h4⟩ := okO_at h
   refine ⟨by simp -implicitDefEqProofs -dsimp [h3], fun i => ?_⟩
   cases i with
   | zero => exact ⟨fun zs hz => (hnb zs (by simpa using hz)).elim, fun _ => rfl⟩
   | succ i => simpa using h4 i
  ·rename_i h1 _; cases h1
  ·cases h
section
variable {C : Ctx} {E : Env} {cb : Comp → Option Nat} {Fc : Comp → List Nat} {σ : St} {w : World} {a : Act} {xs ys outs rs : List V}
theorem lk_map {α β : Type} (t : List (Comp × α)) (f : α → β) (c : Comp) : lk (t.map fun p => (p.1, f p.2)) c = (lk t c).map f := by
 induction t with
 | nil => rfl
 | cons p t ih =>
  unfold lk at *
  simp only [List.map_cons, List.find?_cons]
  by_cases h : p.1 = c
  ·simp -implicitDefEqProofs -dsimp [h]
  ·simp only [h, decide_false]; exact ih
theorem Sim.callOut (h : Sim C E cb Fc σ w a) {us : Array Value} {res : List Value} {v : Value} {w' : World} {d : Option Nat} {d' : Nat} (hd' : d' = d.getD 0) (hval : ∀ i, i < ys.length → ∃ F, R (xs.getD i .un) E F (us.getD i undef)) (hus : us.size = ys.length)
  (hp : passL C.P σ xs ys) (hn2 : ((og σ xs ys).map (·.2)).Nodup) (hn1 : ((og σ xs ys).map (·.1)).Nodup) (hln : ∀ c ∈ ln σ xs ys, c ∉ (og σ xs ys).map (·.2)) (ho : okO ys outs = true) (hr : rs.all okR = true)
  {al : Bool} (hal : al = (rs.all ownV && outs.all ownV)) {fz : List Comp} (hfz : fz = if al then [] else ln σ xs ys) {mv : List Comp} (hmv : mv = ((og σ xs ys).map (·.2)).filter (fun | .r _ _ => true | _ => false))
  {t : List (Comp × Comp × V)} (ht : t = tri d' xs outs rs) (hnt : (mv ++ t.map (·.1)).Nodup) (hnt2 : (t.map (·.2.1)).Nodup) (hun : ∀ p ∈ t, match p.1 with | .r i j => isUn (σ (.r i j)) = true | _ => True)
  (hdt : okd a.tmps.size d) (hres : res.length = rs.length) (hv : resV v res) {Φ' : Nat → Nat → Option Value} (hΦ' : Φ' = (E.fz w cb (ln σ xs ys)).Φ)
  {μ' : Nat → Option Nat} {k' : Nat} (hpost : Held ⟨C.P, w, Φ', inX σ cb Fc xs ys, μ', k'⟩ (inSt (outs ++ rs)) w' ⟨us ++ res.toArray, []⟩) :
  Held C (upds σ (mv.map (fun c => (c, V.dead)) ++ (frozen σ fz ++ (t.map (fun p => (p.1, p.2.2)) ++ wr d (resV' d' rs))))) w' (a.put d v) := by
 obtain ⟨E2, cb2, Fc2, h2⟩ := hpost
 have hlnr : ∀ c ∈ ln σ xs ys, ∃ i j, c = .r i j ∧ isRow (σ c) = true := fun c hc => ln_mem hc
 obtain ⟨_, hFz⟩ := h.freezeL (ln σ xs ys) hlnr
 obtain ⟨hol, hoat⟩ := okO_at ho
 have htn : (t.map (·.1)).Nodup := (List.nodup_append.1 hnt).2.1
 have htmem : ∀ {c c' x}, (c, c', x) ∈ t → lk t c = some (c', x) := fun {c c' x} hm => lk_of htn hm
 have htt : ∀ {c p}, lk t c = some p → (∃ i b o cs, i < outs.length ∧ c = .b b ∧ p.1 = .b i ∧ xs.getD i .un = .pt b o ∧ outs.getD i .un = .blk cs ∧ p.2 = .blk (outCs d' (10000 + 100 * i) cs)) ∨
   (∃ i j k a e zs, c = .r d' (k + j) ∧ p.1 = .r i j ∧ p.2 = .row a e zs ∧ yij (outs ++ rs) i j = .row a e zs) := fun {c p} hm => by
  have := lk_mem hm
  rw [ht] at this
  exact tri_mem this
 have htun : ∀ {i j p}, lk t (.r i j) = some p → σ (.r i j) = .un := fun {i j p} hm => isUn_eq (hun _ (lk_mem hm))
 have htt0 : ∀ i, lk t (.t i) = none := fun i => by
  cases hl : lk t (.t i) with
  | none => rfl
  | some p => rcases htt hl with ⟨_, _, _, _, _, h3, _⟩ | ⟨_, _, _, _, _, _, h3, _⟩ <;> cases h3
 have hmvr : ∀ c ∈ mv, ∃ i j, c = .r i j ∧ isRow (σ c) = true := fun c hc => by
  rw [hmv] at hc
  obtain ⟨h3, h4⟩ := List.mem_filter.1 hc
  obtain ⟨⟨c1, c0⟩, h5, h6⟩ := List.mem_map.1 h3
  simp only at h6; subst h6
  rcases og_mem h5 with ⟨_, _, _, _, _, _, rfl, _⟩ | ⟨i, j, p, q, _, e, zs, hi, hj, _, rfl, hx, hy⟩
  ·cases h4
  ·refine ⟨p, q, rfl, ?_⟩
   have hpc := passCs_get (pass_cells (passL_get hp i hi)) j hj
   change passC C.P σ (xij σ xs ys i j) (yij ys i j) at hpc
   rw [hx, hy] at hpc
   simp only [passC] at hpc
   rw [hpc]; rfl
 have hfzr : ∀ c ∈ fz, c ∈ ln σ xs ys ∧ al = false := fun c hc => by
  rw [hfz] at hc
  cases al
  ·exact ⟨hc, rfl⟩
  ·cases hc
 have hog : ∀ c ∈ (og σ xs ys).map (·.2), c ∈ mv ∨ ∃ p, lk t c = some p := fun c hc => by
  obtain ⟨⟨c1, c0⟩, h5, h6⟩ := List.mem_map.1 hc
  simp only at h6; subst h6
  rcases og_mem h5 with ⟨i, b, o, ys', hi, _, rfl, hx, hy⟩ | ⟨_, _, p, q, _, _, _, _, _, _, rfl, _⟩
  ·obtain ⟨cs, hcs, _⟩ := (hoat i).1 ys' hy
   exact .inr ⟨_, htmem (ht ▸ tri_blk (by rw [hol]; exact hi) hx hcs)⟩
  ·exact .inl (by rw [hmv]; exact List.mem_filter.2 ⟨hc, rfl⟩)
 let En : Env := {
  Φ := fun b o => if al && (ln σ xs ys).any (fun c => decide (cb c = some b)) then none else E2.Φ b o
  μ := E.μ
  ρ := fun p q => match lk t (.r p q) with | some (.r i j, _) => E2.ρ i j | _ => E.ρ p q
  loc := true }
 let cbn : Comp → Option Nat := fun c => match lk t c with | some p => cb2 p.1 | none => if c ∈ mv ++ fz then none else cb c
 let Fcn : Comp → List Nat := fun c => match lk t c with | some p => Fc2 p.1 | none => if c ∈ mv ++ fz then [] else Fc c
 have hE2Φ : ∀ b o u, E.Φ b o = some u → E2.Φ b o = some u := fun b o u e => h2.phi0 b o u (by
  show Φ' b o = some u
  rw [hΦ']; exact (fz_le h _).1 b o u e)
 have hEn : E.le En := by
  refine ⟨fun b o u e => ?_, fun _ _ h => h, fun p q u e => ?_, fun _ => rfl⟩
  ·simp only [En]
   rw [if_neg]
   ·exact hE2Φ b o u e
   ·intro hc
    rw [Bool.and_eq_true] at hc
    obtain ⟨c, _, h6⟩ := any_cb.1 hc.2
    have := h.out c b h6 o
    rw [e] at this; cases this
  ·simp only [En]
   cases hl : lk t (.r p q) with
   | none => exact e
   | some pp =>
    have h3 := h.mem (.r p q)
    rw [htun hl] at h3
    rw [h3.2.2] at e; cases e
 have hmvt : ∀ c ∈ mv, lk t c = none := fun c hc => by
  cases hl : lk t c with
  | none => rfl
  | some p => exact absurd rfl ((List.nodup_append.1 hnt).2.2 c hc c (List.mem_map.2 ⟨_, lk_mem hl, rfl⟩))
 have hlnt : ∀ c ∈ ln σ xs ys, lk t c = none := fun c hc => by
  cases hl : lk t c with
  | none => rfl
  | some p =>
   obtain ⟨i, j, rfl, hrw⟩ := hlnr c hc
   rw [htun hl] at hrw; cases hrw
 have hmvln : ∀ c ∈ mv, c ∉ ln σ xs ys := fun c hc hl => hln c hl (by rw [hmv] at hc; exact (List.mem_filter.1 hc).1)
 have hσn : ∀ c, (∀ i, c ≠ .t i) → upds σ (mv.map (fun c => (c, V.dead)) ++ (frozen σ fz ++ (t.map (fun p => (p.1, p.2.2)) ++ wr d (resV' d' rs)))) c = (match lk t c with | some p => p.2 | none => if c ∈ fz then .sl (rowV (σ c)) else if c ∈ mv then .dead else σ c) := fun c hc => by
  rw [upds_append, upds_append, upds_append, upds_other (wr d (resV' d' rs)) _ (c := c) (fun p hp => by
   cases d with
   | none => cases hp
   | some d => simp only [wr, List.mem_singleton] at hp; subst hp; exact fun e => hc d e.symm)]
  rw [upds_lk _ _ _ (by rw [List.map_map]; exact htn), lk_map t (fun q => q.2)]
  cases hl : lk t c with
  | some p => rfl
  | none =>
   simp only [Option.map_none, Option.getD_none]
   rw [show upds (upds σ (mv.map fun c => (c, V.dead))) (frozen σ fz) c = if c ∈ fz then .sl (rowV (σ c)) else upds σ (mv.map fun c => (c, V.dead)) c from upds_frozen σ fz _ c, upds_dead]
 have hσt : ∀ i, upds σ (mv.map (fun c => (c, V.dead)) ++ (frozen σ fz ++ t.map (fun p => (p.1, p.2.2)))) (.t i) = σ (.t i) := fun i => by
  rw [upds_append, upds_append, upds_lk _ _ _ (by rw [List.map_map]; exact htn), lk_map t (fun q => q.2), htt0]
  simp only [Option.map_none, Option.getD_none]
  rw [show upds (upds σ (mv.map fun c => (c, V.dead))) (frozen σ fz) (.t i) = if Comp.t i ∈ fz then .sl (rowV (σ (.t i))) else upds σ (mv.map fun c => (c, V.dead)) (.t i) from upds_frozen σ fz _ _, upds_dead, if_neg, if_neg]
  ·intro hm; obtain ⟨_, _, e, _⟩ := hmvr _ hm; cases e
  ·intro hm; obtain ⟨_, _, e, _⟩ := hlnr _ (hfzr _ hm).1; cases e
 have hdrop : al = true → rs.all ownV = true ∧ outs.all ownV = true := fun e => by rw [hal, Bool.and_eq_true] at e; exact e
 have hkeep : al = false → ∀ b o u, E2.Φ b o = some u → En.Φ b o = some u := fun e b o u hu => by simp only [En, e, Bool.false_and, Bool.false_eq_true, if_false]; exact hu
 have hρn : ∀ {p q i j x}, lk t (.r p q) = some (.r i j, x) → En.ρ p q = E2.ρ i j := fun {p q i j x} hl => by simp only [En, hl]
 have hgetD : ∀ q, q < rs.length → (us ++ res.toArray).getD (ys.length + q) undef = res.getD q undef := fun q hq => by
  rw [Array.getD_eq_getD_getElem?, Array.getElem?_append_right (by omega), hus, Nat.add_sub_cancel_left, List.getElem?_toArray]; simp -implicitDefEqProofs -dsimp [List.getD]
 have hresq : ∀ q, q < rs.length → ∃ F, R (outT d' (100 * q) (rs.getD q .un)) En F (res.getD q undef) := fun q hq => by
  obtain ⟨F, h3⟩ := h2.tmp (ys.length + q)
  have e1 : inSt (outs ++ rs) (.t (ys.length + q)) = entT (ys.length + q) (rs.getD q .un) := by
   simp only [inSt]
   rw [show (outs ++ rs).getD (ys.length + q) .un = rs.getD q .un by
    rw [← hol]; simp only [List.getD, List.getElem?_append_right (Nat.le_add_right _ _), Nat.add_sub_cancel_left]]
  rw [e1] at h3
  simp only [hgetD q hq] at h3
  have hmem : rs.getD q .un ∈ rs := by simp -implicitDefEqProofs -dsimp [List.getD, hq]
  refine outT_ok rfl (fun j a e zs hj hc => ?_) (List.all_eq_true.1 hr _ hmem) ?_ h3
  ·refine hρn (x := .row a e zs) (htmem ?_)
   rw [ht, ← hol]
   exact tri_res hq hj hc
  ·cases hale : al
   ·exact .inr (hkeep hale)
   ·exact .inl (List.all_eq_true.1 (hdrop hale).1 _ hmem)
 have hresv : ∃ F, R (resV' d' rs) En F v := by
  have many : ∀ (rs0 : List V) (res0 : List Value) (q0 : Nat), res0.length = rs0.length → (∀ q, q < rs0.length → ∃ F, R (outT d' (100 * (q0 + q)) (rs0.getD q .un)) En F (res0.getD q undef)) → ∃ F, Rt (resT d' q0 rs0) En F res0 := by
   intro rs0
   induction rs0 with
   | nil => intro res0 q0 hl _; exact ⟨[], by simp only [resT]; unfold Rt; exact ⟨rfl, List.length_eq_zero_iff.1 hl⟩⟩
   | cons r rs0 ih =>
    intro res0 q0 hl hq
    cases res0 with
    | nil => simp at hl
    | cons u res0 =>
     obtain ⟨F1, h3⟩ := hq 0 (by simp -implicitDefEqProofs -dsimp)
     obtain ⟨F2, h4⟩ := ih res0 (q0 + 1) (by simpa using hl) fun q hqq => by
      have := hq (q + 1) (by simpa using hqq)
      rw [show q0 + 1 + q = q0 + (q + 1) by omega]; simpa using this
     exact ⟨F1 ++ F2, by simp only [resT]; unfold Rt; exact ⟨F1, F2, u, res0, rfl, rfl, by simpa using h3, h4⟩⟩
  have tup : (∀ r, rs ≠ [r]) → ∃ F, R (resV' d' rs) En F v := fun hne => by
   obtain ⟨F, h3⟩ := many rs res 0 hres fun q hq => by rw [Nat.zero_add]; exact hresq q hq
   have e1 : resV' d' rs = .tu (resT d' 0 rs) := by
    unfold resV'
    split
    ·exact absurd rfl (hne _)
    ·rfl
   have e2 : v = .tuple res.toArray := by
    unfold resV at hv
    split at hv
    ·rename_i u
     have : ∃ r, rs = [r] := List.length_eq_one_iff.1 hres.symm
     obtain ⟨r, hr1⟩ := this
     exact absurd hr1 (hne r)
    ·exact hv
   rw [e1, e2]
   exact ⟨F, by unfold R; exact ⟨rfl, _, rfl, by simpa using h3⟩⟩
  by_cases h1 : ∃ r, rs = [r]
  ·obtain ⟨r, rfl⟩ := h1
   obtain ⟨u, rfl⟩ : ∃ u, res = [u] := List.length_eq_one_iff.1 hres
   have := hresq 0 (by simp -implicitDefEqProofs -dsimp)
   simp only [resV] at hv
   subst hv
   simpa [resV'] using this
  ·exact tup fun r hr1 => h1 ⟨r, hr1⟩
 have hlend : ∀ c, ∀ y ∈ exc (inSt (outs ++ rs) c) (cb2 c) (Fc2 c), ∀ c1 ∈ ln σ xs ys, cb c1 ≠ some y := fun c y hy c1 hc1 hcb => by
  have h3 := h.new c1 y (mem_exc hcb)
  rcases (h2.new c y hy).1 with h4 | h4
  ·have : w.heap.size ≤ y := h4
   omega
  ·obtain ⟨c0, h5, h6⟩ := List.mem_flatMap.1 (show y ∈ inX σ cb Fc xs ys from h4)
   exact h.dis c0 c1 (fun e => hln c1 hc1 (e ▸ h5)) y h6 (mem_exc hcb)
 have hout2 : ∀ c, ∀ y ∈ exc (inSt (outs ++ rs) c) (cb2 c) (Fc2 c), w.heap.size ≤ y ∨ ∃ c0 ∈ (og σ xs ys).map (·.2), y ∈ exc (σ c0) (cb c0) (Fc c0) := fun c y hy => by
  rcases (h2.new c y hy).1 with h4 | h4
  ·exact .inl h4
  ·exact .inr (List.mem_flatMap.1 (show y ∈ inX σ cb Fc xs ys from h4))
 let T : List Comp := mv ++ fz ++ t.map (·.1)
 have hTt : ∀ c, c ∈ T → c ∈ mv ∨ c ∈ fz ∨ ∃ p, lk t c = some p := fun c hc => by
  simp only [T, List.mem_append] at hc
  rcases hc with (hc | hc) | hc
  ·exact .inl hc
  ·exact .inr (.inl hc)
  ·obtain ⟨p, h3, rfl⟩ := List.mem_map.1 hc
   exact .inr (.inr ⟨p.2, lk_of htn h3⟩)
 have hTn : ∀ c, c ∉ T → c ∉ mv ∧ c ∉ fz ∧ lk t c = none := fun c hc => by
  simp only [T, List.mem_append, not_or] at hc
  refine ⟨hc.1.1, hc.1.2, ?_⟩
  cases hl : lk t c with
  | none => rfl
  | some p => exact absurd (List.mem_map.2 ⟨_, lk_mem hl, rfl⟩) hc.2
 have hTog : ∀ c ∈ (og σ xs ys).map (·.2), c ∈ T := fun c hc => by
  simp only [T, List.mem_append]
  rcases hog c hc with h3 | ⟨p, h3⟩
  ·exact .inl (.inl h3)
  ·exact .inr (List.mem_map.2 ⟨_, lk_mem h3, rfl⟩)
 have hTnt : ∀ c, c ∈ T → ∀ i, c ≠ .t i := fun c hc i e => by
  subst e
  rcases hTt _ hc with h3 | h3 | ⟨p, h3⟩
  ·obtain ⟨_, _, e, _⟩ := hmvr _ h3; cases e
  ·obtain ⟨_, _, e, _⟩ := hlnr _ (hfzr _ h3).1; cases e
  ·rw [htt0] at h3; cases h3
 have hdp : ∀ {c p}, lk t c = some p → deep p.2 = deep (inSt (outs ++ rs) p.1) := fun {c p} hl => by
  rcases htt hl with ⟨i, b, o, cs, hi, _, h3, _, h4, h5⟩ | ⟨i, j, k, e, f, zs, _, h3, h4, h5⟩
  ·have : (outs ++ rs).getD i .un = .blk cs := by rw [← h4]; simp only [List.getD, List.getElem?_append_left hi]
   rw [h3, h5]; simp only [inSt, this, deep]
  ·rw [h3, h4, inSt_r]; change _ = deep (rowAt (yij (outs ++ rs) i j)); rw [h5]; rfl
 have hexn : ∀ c, c ∈ T → ∀ y, y ∈ exc (upds σ (mv.map (fun c => (c, V.dead)) ++ (frozen σ fz ++ (t.map (fun p => (p.1, p.2.2)) ++ wr d (resV' d' rs)))) c) (cbn c) (Fcn c) → ∃ p, lk t c = some p ∧ y ∈ exc (inSt (outs ++ rs) p.1) (cb2 p.1) (Fc2 p.1) := fun c hc y hy => by
  rw [hσn c (hTnt c hc)] at hy
  rcases hTt c hc with h3 | h3 | ⟨p, h3⟩
  ·have h4 := hmvt c h3
   simp -implicitDefEqProofs -dsimp [cbn, Fcn, h4, h3, exc, fun hf => hmvln c h3 (hfzr c hf).1, deep] at hy
  ·have h4 := hlnt c (hfzr c h3).1
   simp -implicitDefEqProofs -dsimp [cbn, Fcn, h4, h3, exc, deep] at hy
  ·refine ⟨p, h3, ?_⟩
   simp only [cbn, Fcn, h3] at hy
   unfold exc at hy ⊢
   rw [← hdp h3]; exact hy
 refine ⟨En, cbn, Fcn, h.gen T ?_ ?_ hEn ?_ ?_ ?_ ?_ ?_ h2.size h2.os h2.tape h2.output ?_ ?_ ?_ ?_ ?_ ?_ ?_ ?_⟩
 ·intro c hc hct
  obtain ⟨h3, h4, h5⟩ := hTn c hc
  rw [hσn c hct]
  simp -implicitDefEqProofs -dsimp [cbn, Fcn, h3, h4, h5]
 ·intro i
  have h3 := h.cbt i
  have h4 : Comp.t i ∉ mv ++ fz := fun hm => hTnt (.t i) (by simp only [T]; exact List.mem_append_left _ hm) i rfl
  simp -implicitDefEqProofs -dsimp [cbn, Fcn, htt0, h3]
 ·intro _ _ hn; exact hn
 ·intro i j hij hn
  simp only [En, (hTn _ hij).2.2]; exact hn
 ·intro b o u hu
  simp only [En] at hu
  split at hu
  ·cases hu
  ·exact h2.frz b o u hu
 ·intro b o u hu
  simp only [En] at hu
  split at hu
  ·cases hu
  ·rcases h2.grow b o u hu with h3 | h3
   ·have h3 : Φ' b o = some u := h3
    rw [hΦ'] at h3
    simp only [Env.fz] at h3
    split at h3
    ·rename_i hany
     obtain ⟨c, _, h6⟩ := any_cb.1 hany
     exact .inr (h.new c b (mem_exc h6)).1
    ·exact .inl h3
   ·rcases h3 with h3 | h3
    ·exact .inr (.inl (Nat.le_trans h.size h3))
    ·obtain ⟨c0, _, h6⟩ := List.mem_flatMap.1 (show b ∈ inX σ cb Fc xs ys from h3)
     exact .inr (h.new c0 b h6).1
 ·intro b hb hne
  refine h2.old b hb fun hX => ?_
  obtain ⟨c0, h5, h6⟩ := List.mem_flatMap.1 (show b ∈ inX σ cb Fc xs ys from hX)
  exact hne c0 (hTog c0 h5) h6
 ·intro i
  cases d with
  | none =>
   simp only [wr, List.append_nil, Act.put]
   rw [hσt]
   obtain ⟨F, h3⟩ := h.tmp i
   exact ⟨F, R.mono hEn _ h3⟩
  | some d =>
   obtain ⟨F, h3⟩ := hresv
   have := tmp_upd h hEn (σ' := upds σ (mv.map (fun c => (c, V.dead)) ++ (frozen σ fz ++ t.map (fun p => (p.1, p.2.2))))) hσt hdt h3 i
   rw [← List.append_assoc, ← List.append_assoc, upds_append]
   rw [← List.append_assoc] at this
   exact this
 ·intro c hc
  rw [hσn c (hTnt c hc)]
  rcases hTt c hc with h3 | h3 | ⟨p, h3⟩
  ·have h4 := hmvt c h3
   obtain ⟨i, j, rfl, _⟩ := hmvr c h3
   have h5 : Comp.r i j ∉ fz := fun hf => hmvln _ h3 (hfzr _ hf).1
   simp -implicitDefEqProofs -dsimp [cbn, Fcn, h4, h3, h5, COk]
  ·obtain ⟨h4, hale⟩ := hfzr c h3
   obtain ⟨i, j, rfl, hrw⟩ := hlnr c h4
   simp only [cbn, Fcn, hlnt _ h4, h3, List.mem_append, or_true, if_true]
   cases hb : σ (.r i j) <;> rw [hb] at hrw <;> simp -implicitDefEqProofs -dsimp [isRow] at hrw
   rename_i dd e zs
   obtain ⟨u, F, h5, h6, _⟩ := hFz i j dd e zs h4 hb
   refine ⟨rfl, u, hEn.2.2.1 _ _ _ h5, F, R.data (E := E.fz w cb (ln σ xs ys)) rfl (fun b _ o u hu => hkeep hale b o u (h2.phi0 b o u (by show Φ' b o = some u; rw [hΦ']; exact hu))) h6⟩
  ·simp only [h3]
   rcases htt h3 with ⟨i, b, o, cs, hi, rfl, h4, hxi, hoi, h5⟩ | ⟨i, j, k, e, f, zs, rfl, h4, h5, h6⟩
   ·obtain ⟨c', x⟩ := p
    simp only at h4 h5
    subst h4 h5
    have hoi' : (outs ++ rs).getD i .un = .blk cs := by rw [← hoi]; simp only [List.getD, List.getElem?_append_left hi]
    have h7 := h2.mem (.b i)
    simp only [inSt, hoi'] at h7
    obtain ⟨arr, tyy, kk, h8, h9, h10, F, h11⟩ := h7
    obtain ⟨F2, h12⟩ := h2.tmp i
    simp only [inSt, hoi', entT] at h12
    unfold R at h12
    obtain ⟨_, _, g2, h13, h14⟩ := h12
    have h15 : (us ++ res.toArray).getD i undef = us.getD i undef := by
     rw [Array.getD_eq_getD_getElem?, Array.getElem?_append_left (by omega), Array.getD_eq_getD_getElem?]
    simp only [h15] at h14
    obtain ⟨F3, h16⟩ := hval i (by omega)
    rw [hxi] at h16
    unfold R at h16
    obtain ⟨_, _, g3, h17, h18⟩ := h16
    have h19 : g3 = kk := by
     rw [h14] at h18
     simp only [Value.pointer.injEq, Option.some.injEq, Addr.mk.injEq] at h18
     rw [← h18.1]; exact Option.some.inj (h13.symm.trans h9)
    subst h19
    have hall : cs.all okC = true := by
     rcases Classical.em (∃ zs, ys.getD i .un = .blk zs) with ⟨zs, hy⟩ | hny
     ·obtain ⟨cs', h20, h21⟩ := (hoat i).1 zs hy
      rw [hoi] at h20
      obtain rfl := V.blk.inj h20
      exact h21
     ·have := (hoat i).2 fun zs hz => hny ⟨zs, hz⟩
      rw [hoi] at this; cases this
    obtain ⟨F4, h20⟩ := outCs_ok (E' := E2) (En := En) (i := i) (d := d') (k := 10000 + 100 * i) rfl (j0 := 0) (fun j e f zs hj hc => by
     rw [Nat.zero_add]
     exact hρn (x := .row e f zs) (htmem (ht ▸ tri_blkr hi hxi hoi hj hc))) hall (by
      cases hale : al
      ·exact .inr (hkeep hale)
      ·have hmem : outs.getD i .un ∈ outs := by simp -implicitDefEqProofs -dsimp [List.getD, hi]
       have := List.all_eq_true.1 (hdrop hale).2 _ hmem
       rw [hoi] at this
       exact .inl this) h11
    simp only [cbn, h3]
    exact ⟨arr, tyy, g3, h8, h17, h10, F4, h20⟩
   ·obtain ⟨c', x⟩ := p
    simp only at h4 h5
    subst h4 h5
    have h7 := h2.mem (.r i j)
    rw [inSt_r] at h7
    change COk _ E2 w' (.r i j) (rowAt (yij (outs ++ rs) i j)) _ _ at h7
    rw [h6] at h7
    obtain ⟨u, vs, kk, h8, h9, h10, h11, h12, h13, h14⟩ := h7
    simp only [cbn, Fcn, h3]
    refine ⟨u, vs, kk, (hρn h3).trans h8, h9, h10, h11, ?_, h13, h14⟩
    refine Els.free (E := E2.dat) rfl _ (fun b hb o u hu => ?_) h12
    show En.Φ b o = some u
    simp only [En]
    rw [if_neg]
    ·exact hu
    ·intro hc
     rw [Bool.and_eq_true] at hc
     obtain ⟨c1, hc1, h15⟩ := any_cb.1 hc.2
     have hd1 : e = true := by
      have hz : (outs ++ rs).getD i .un ∈ outs ++ rs := by
       have hlt : i < (outs ++ rs).length := by
        rcases Nat.lt_or_ge i (outs ++ rs).length with h' | h'
        ·exact h'
        ·unfold yij at h6; rw [getD_un _ h'] at h6; simp only [yc] at h6; cases j <;> simp at h6
       exact getD_mem _ hlt
      have hov : ownV ((outs ++ rs).getD i .un) = true := by
       rcases List.mem_append.1 hz with hz | hz
       ·exact List.all_eq_true.1 (hdrop hc.1).2 _ hz
       ·exact List.all_eq_true.1 (hdrop hc.1).1 _ hz
      have hjm : yij (outs ++ rs) i j ∈ yc ((outs ++ rs).getD i .un) := by
       have hlt : j < (yc ((outs ++ rs).getD i .un)).length := by
        rcases Nat.lt_or_ge j (yc ((outs ++ rs).getD i .un)).length with h' | h'
        ·exact h'
        ·unfold yij at h6; rw [getD_un _ h'] at h6; cases h6
       exact getD_mem _ hlt
      have := List.all_eq_true.1 hov _ hjm
      rw [h6] at this
      exact this
     refine hlend (.r i j) b ?_ c1 hc1 h15
     rw [inSt_r]
     change b ∈ exc (rowAt (yij (outs ++ rs) i j)) _ _
     rw [h6]
     exact mem_exc_deep (by simp -implicitDefEqProofs -dsimp [rowAt, deep, hd1]) hb
 ·intro c g hc o
  simp only [En]
  split
  ·rfl
  ·rename_i hnd
   cases hl : lk t c with
   | some p => simp only [cbn, hl] at hc; exact h2.out p.1 g hc o
   | none =>
    simp only [cbn, hl] at hc
    split at hc
    ·cases hc
    ·rename_i hcn
     cases hv2 : E2.Φ g o with
     | none => rfl
     | some u =>
      exfalso
      have hgl := (h.new c g (mem_exc hc)).2
      rcases h2.grow g o u hv2 with h3 | h3 | h3
      ·have h3 : Φ' g o = some u := h3
       rw [hΦ'] at h3
       simp only [Env.fz] at h3
       split at h3
       ·rename_i hany
        rw [hany, Bool.and_true] at hnd
        obtain ⟨c1, hc1, h6⟩ := any_cb.1 hany
        have hcc : c = c1 := by
         rcases Classical.em (c = c1) with e | e
         ·exact e
         ·exact absurd (mem_exc h6) (h.dis c c1 e g (mem_exc hc))
        subst hcc
        apply hcn
        rw [hfz]
        cases al
        ·exact List.mem_append_right _ hc1
        ·exact absurd rfl hnd
       ·rw [h.out c g hc o] at h3; cases h3
      ·have : w.heap.size ≤ g := h3
       omega
      ·obtain ⟨c0, h5, h6⟩ := List.mem_flatMap.1 (show g ∈ inX σ cb Fc xs ys from h3)
       have hcc : c = c0 := by
        rcases Classical.em (c = c0) with e | e
        ·exact e
        ·exact absurd h6 (h.dis c c0 e g (mem_exc hc))
       subst hcc
       rcases hog c h5 with h7 | ⟨p, h7⟩
       ·exact hcn (List.mem_append_left _ h7)
       ·rw [hl] at h7; cases h7
 ·intro c hc y hy
  obtain ⟨p, h3, h4⟩ := hexn c hc y hy
  refine ⟨?_, (h2.new p.1 y h4).2⟩
  rcases hout2 p.1 y h4 with h5 | ⟨c0, h5, h6⟩
  ·exact .inr (.inl h5)
  ·exact .inl ⟨c0, hTog c0 h5, h6⟩
 ·intro c hc c' hc' hne x hx hx'
  obtain ⟨p, h3, h4⟩ := hexn c hc x hx
  obtain ⟨p', h5, h6⟩ := hexn c' hc' x hx'
  have hpp : p.1 ≠ p'.1 := fun e => hne (by
   have key : ∀ (t : List (Comp × Comp × V)), (t.map (·.2.1)).Nodup → (c, p) ∈ t → (c', p') ∈ t → c = c' := by
    intro t
    induction t with
    | nil => intro _ h _; cases h
    | cons q t ih =>
     intro hn h7 h8
     simp only [List.map_cons, List.nodup_cons] at hn
     rcases List.mem_cons.1 h7 with h9 | h9
     ·rcases List.mem_cons.1 h8 with h10 | h10
      ·rw [← h10] at h9; exact (Prod.mk.inj h9).1
      ·refine absurd (List.mem_map.2 ⟨(c', p'), h10, ?_⟩) hn.1
       rw [← h9]; exact e.symm
     ·rcases List.mem_cons.1 h8 with h10 | h10
      ·refine absurd (List.mem_map.2 ⟨(c, p), h9, ?_⟩) hn.1
       rw [← h10]; exact e
      ·exact ih hn.2 h9 h10
   exact key t hnt2 (lk_mem h3) (lk_mem h5))
  exact h2.dis p.1 p'.1 hpp x h4 h6
 ·intro c hc
  rw [hσn c (hTnt c hc)]
  rcases hTt c hc with h3 | h3 | ⟨p, h3⟩
  ·have h4 := hmvt c h3
   have h5 : c ∉ fz := fun hf => hmvln _ h3 (hfzr _ hf).1
   simp -implicitDefEqProofs -dsimp [cbn, Fcn, h4, h3, h5, exc, deep]
  ·have h4 := hlnt c (hfzr c h3).1
   simp -implicitDefEqProofs -dsimp [cbn, Fcn, h4, h3, exc, deep]
  ·simp only [cbn, Fcn, h3]
   have := h2.nod p.1
   unfold exc at this ⊢
   rw [hdp h3]; exact this
 ·cases d <;> exact h.dfr
 ·intro i hi
  rw [hσn _ (by simp -implicitDefEqProofs -dsimp)]
  rcases hTt _ hi with h3 | h3 | ⟨p, h3⟩
  ·obtain ⟨_, _, e, _⟩ := hmvr _ h3; cases e
  ·obtain ⟨_, _, e, _⟩ := hlnr _ (hfzr _ h3).1; cases e
  ·rw [h3]
   rcases htt h3 with ⟨_, _, _, _, _, _, _, _, _, h5⟩ | ⟨_, _, _, _, _, _, h4, _⟩
   ·simp -implicitDefEqProofs -dsimp [h5]
   ·cases h4
end
end Go.Proofs.YtlfblkekbcfjpaaGreatDoor
namespace Go.Proofs.YtlfblkekbcfjpaaGreatDoor
open Go.RowKit
section
variable {C : Ctx} {E : Env} {cb : Comp → Option Nat} {Fc : Comp → List Nat} {σ : St} {w : World} {a : Act}
variable {P : Program} {g : Prop} {K : List (Comp × V) → List Comp → Prop} {next : Act → World → Prop} {Q : Exit → Act → World → Prop}
variable {dst : Option Tmp} {ty : TypeId} {pos : String} {after : Array Edge} {guard : Option (Nat × Bool)}
theorem sops (h : Sim C E cb Fc σ w a) : ∀ (os : List Operand) (i : Nat), i < os.length → ∃ F, R ((os.map (sop σ)).getD i .un) E F ((os.map a.eval).getD i undef)
 | [], i, hi => by simp at hi
 | o :: os, 0, _ => by simpa using h.sop o
 | o :: os, i + 1, hi => by simpa using sops h os i (by simpa using hi)
theorem Rs.at {xs : List V} {E : Env} {F : List Nat} {vs : List Value} (h : Rs xs E F vs) {i : Nat} (hi : i < xs.length) : ∃ F', R (xs.getD i .un) E F' (vs.getD i undef) := by
 obtain ⟨F', v, h1, h2, _⟩ := h.get hi
 exact ⟨F', by simpa [List.getD, h1] using h2⟩
theorem so_call (h : Sim C E cb Fc σ w a) (hP : C.P = P) (hg : g) (hd : okd a.tmps.size dst) (hn : Next C σ a K next) (hout : True) (c : Call) {fid : FuncId} {cs : List V} (fo : Operand) (hce : c.callee = .value fo) (hf : sop σ fo = .fn fid cs)
  (hk : wpcall P g fid (c.args.toList.map (sop σ) ++ cs) dst σ K) : (Oper.mk dst (.call c) ty pos after guard).wp P a w next Q := by
 obtain ⟨ys, outs, rs, hpf, hk⟩ := hk
 obtain ⟨hp, hfn⟩ := hpf hg
 obtain ⟨hn1, hn2, hln, ho, hr, hnt, hnt2, hun, _, hdn, hk⟩ := hk
 obtain ⟨F, hx⟩ := h.sop fo
 rw [hf] at hx
 unfold R at hx
 obtain ⟨vs, hv, hcs⟩ := hx
 have hlen := passL_len hp
 have hl1 : ys.length = c.args.size + vs.size := by
  rw [← hlen, List.length_append, List.length_map, Array.length_toList, ← hcs.len]; simp -implicitDefEqProofs -dsimp
 have hval : ∀ i, i < ys.length → ∃ F, R ((c.args.toList.map (sop σ) ++ cs).getD i .un) E F ((c.args.map a.eval ++ vs).getD i undef) := by
  intro i hi
  by_cases h1 : i < c.args.size
  ·obtain ⟨F', h2⟩ := sops h c.args.toList i (by simpa using h1)
   refine ⟨F', ?_⟩
   rw [show (c.args.toList.map (sop σ) ++ cs).getD i .un = (c.args.toList.map (sop σ)).getD i .un by
    simp only [List.getD]; rw [List.getElem?_append_left (by simpa using h1)]]
   rw [show (c.args.map a.eval ++ vs).getD i undef = (c.args.toList.map a.eval).getD i undef by
    rw [Array.getD_eq_getD_getElem?, Array.getElem?_append_left (by simpa using h1)]; simp -implicitDefEqProofs -dsimp [List.getD]]
   exact h2
  ·have hi2 : i - c.args.size < cs.length := by have := hcs.len; simp at this; omega
   obtain ⟨F', h2⟩ := hcs.at hi2
   refine ⟨F', ?_⟩
   rw [show (c.args.toList.map (sop σ) ++ cs).getD i .un = cs.getD (i - c.args.size) .un by
    simp only [List.getD]; rw [List.getElem?_append_right (by simp -implicitDefEqProofs -dsimp; omega)]; simp]
   rw [show (c.args.map a.eval ++ vs).getD i undef = vs.toList.getD (i - c.args.size) undef by
    rw [Array.getD_eq_getD_getElem?, Array.getElem?_append_right (by simp -implicitDefEqProofs -dsimp; omega)]; simp -implicitDefEqProofs -dsimp [List.getD]]
   exact h2
 have hsz : (c.args.map a.eval ++ vs).size = ys.length := by simp -implicitDefEqProofs -dsimp [hl1]
 have hin := h.callIn hval (hP ▸ hp) hn1 hn2 hln
 have hcall := hfn ⟨C.P, w, (E.fz w cb (ln σ (c.args.toList.map (sop σ) ++ cs) ys)).Φ, inX σ cb Fc (c.args.toList.map (sop σ) ++ cs) ys, (inEnv E (E.fz w cb (ln σ (c.args.toList.map (sop σ) ++ cs) ys)).Φ σ (c.args.toList.map (sop σ) ++ cs) ys).μ, ys.length⟩ w (c.args.map a.eval ++ vs) hP rfl rfl (fun i zs hz => by
  obtain ⟨F2, h2⟩ := hin.tmp i
  simp only [inSt, hz, entT] at h2
  unfold R at h2
  obtain ⟨_, _, gb, h3, h4⟩ := h2
  exact ⟨gb, h3, h4⟩) hin.held hsz
 have hrun : (execOp a.eval ⟨dst, .call c, ty, pos, after, guard⟩).run P w = (callFunc fid (c.args.map a.eval ++ vs)).run P w := by
  simp -implicitDefEqProofs -dsimp [execOp, resolve, hce, hv, Deferred.ofValue, invoke]
 have hfin : ∀ v w', (∃ us, us.length = rs.length ∧ resV v us ∧ Held ⟨C.P, w, (E.fz w cb (ln σ (c.args.toList.map (sop σ) ++ cs) ys)).Φ, inX σ cb Fc (c.args.toList.map (sop σ) ++ cs) ys, (inEnv E (E.fz w cb (ln σ (c.args.toList.map (sop σ) ++ cs) ys)).Φ σ (c.args.toList.map (sop σ) ++ cs) ys).μ, ys.length⟩ (inSt (outs ++ rs)) w' ⟨c.args.map a.eval ++ vs ++ us.toArray, []⟩) → next (a.put dst v) w' := fun v w' ⟨us, h3, h4, h5⟩ =>
  hn _ _ _ _ hk (h.callOut rfl hval hsz (hP ▸ hp) hn2 hn1 hln ho hr rfl rfl rfl rfl hnt hnt2 hun hd h3 h4 rfl h5) (by cases dst <;> simp -implicitDefEqProofs -dsimp [Act.put])
 unfold Oper.wp
 rw [hrun]
 unfold CallR at hcall
 split at hcall
 ·rename_i v w' he
  rw [he, Oper.upon_value]
  exact hfin v w' hcall
 ·rename_i f' us' w' he
  rw [he, Oper.upon_enter]
  refine hcall.mono fun e w'' hR => ?_
  cases e with
  | returned v => exact hfin v w'' hR
  | panicked chain => exact hR.elim
  | outgrown => exact hR.elim
 ·exact hcall.elim
theorem R.st {x : V} {E : Env} {F : List Nat} {v : Value} {b wt : Bool} (hb : b = wt) (h : R x E F v) : R (x.st b wt) E F v := by
 unfold V.st
 split
 ·rename_i b' w' y
  split
  ·rename_i hc
   unfold R at h
   exact h.1 (by rw [hc.1, hc.2]; exact hb)
  ·exact h
 ·exact h
theorem R_pick {t : Bool} {x y : V} {E : Env} {F F' : List Nat} {u v : Value} (hx : t = true → R x E F u) (hy : t = false → R y E F' v) : ∃ G, R (pickV t x y) E G (if t then u else v) := by
 unfold pickV
 split
 ·rename_i p q
  cases t
  ·have := R_sc (hy rfl); subst this; exact ⟨[], R_sc_mk rfl⟩
  ·have := R_sc (hx rfl); subst this; exact ⟨[], R_sc_mk rfl⟩
 ·cases t
  ·exact ⟨F', hy rfl⟩
  ·exact ⟨F, hx rfl⟩
theorem wpop_sound (h : Sim C E cb Fc σ w a) (hP : C.P = P) (hg : g) (hd : okd a.tmps.size dst) (hn : Next C σ a K next) (hout : True) (op : Op) (hk : wpop P g op dst σ K) : (Oper.mk dst op ty pos after guard).wp P a w next Q := by
 cases op with
 | move x => exact so_move (g := g) h hd hn x hk
 | assign x => exact so_assign (g := g) h hd hn x hk
 | alloc e => exact so_alloc (g := g) h hd hn e hk
 | box e x => exact so_box (g := g) h hd hn e x hk
 | build t ps => exact so_build (g := g) h hd hn t ps hk
 | buildSlice t len ps => exact so_buildSlice (g := g) h hP hd hn t len ps hk
 | load t x => exact so_load h hP hg hd hn t x hk
 | store t x y =>
  exact so_store h hg hd hn t x y hk
 | nilCheck x => exact so_nilCheck (g := g) h hd hn x hk
 | binOp op t x y t' => exact so_binOp h hg hd hn op t t' x y hk
 | unOp op t x => exact so_unOp (g := g) h hd hn op t x hk
 | convert s t x => exact so_convert h hg hd hn s t x hk
 | makeFunc fn fs cs =>
  cases fn with
  | func f => exact so_makeFunc (g := g) h hd hn f fs cs hk
  | _ => exact (by simp only [wpop, wpo] at hk)
 | slice t x lo hi mx =>
  cases mx with
  | none => exact so_slice h hg hd hn t x lo hi hk
  | some m =>
   cases lo with
   | some l => exact (by simp only [wpop, wpo] at hk)
   | none =>
    cases hi with
    | none => exact (by simp only [wpop, wpo] at hk)
    | some hi => exact so_slice3 h hg hd hn t x hi m hk
 | fieldAddr s x f => exact so_fieldAddr h hg hd hn s x f hk
 | field t x f => exact so_field h hg hd hn t x f hk
 | indexAddr t x i => exact so_indexAddr h hg hd hn t x i hk
 | index t x i => exact so_index h hg hd hn t x i hk
 | extract x i => exact so_extract h hg hd hn x i hk
 | pick c x y =>
  simp only [wpop] at hk
  obtain ⟨Fc', hc⟩ := h.sop c
  obtain ⟨F1, hx⟩ := h.sop x
  obtain ⟨F2, hy⟩ := h.sop y
  split at hk
  ·rename_i t he
   rw [he] at hc
   have hc := R_sc hc
   obtain ⟨G, h1⟩ := R_pick (t := t) (fun ht => R.st ht hx) (fun ht => R.st ht hy)
   exact so_val h hd hn (by simp -implicitDefEqProofs -dsimp [execOp, hc, asBool]) h1 hk
  ·exact hk.elim
 | call c =>
  obtain ⟨ce, args, ats⟩ := c
  simp only [wpop] at hk
  cases ce with
  | value f =>
   simp only [wpcl] at hk
   split at hk
   ·rename_i fid cs he
    exact so_call h hP hg hd hn hout ⟨.value f, args, ats⟩ f rfl he hk
   ·exact hk.elim
  | invoke r m => simp only [wpcl] at hk
  | builtin b =>
   have hbi : ∀ v, (∀ ks, (builtin b ats ty ks (args.map a.eval)).run P w = .ok (.value v) w) → (execOp a.eval ⟨dst, .call ⟨.builtin b, args, ats⟩, ty, pos, after, guard⟩).run P w = .ok (.value v) w := fun v hv => by
    simp -implicitDefEqProofs -dsimp [execOp, resolve, invoke, hv]
   have hargs : ∀ l, args.toList = l → args = l.toArray := fun l hl => Array.ext' (by simpa using hl)
   have hats : ∀ l, ats.toList = l → ats = l.toArray := fun l hl => Array.ext' (by simpa using hl)
   unfold wpcl at hk
   split at hk
   ·rename_i h1; cases h1
   ·rename_i h1 h2
    cases h1
    have := so_append (ty := ty) (pos := pos) (after := after) (guard := guard) (Q := Q) h hP hg hd (ts := ats.toList) hn hk
    rw [hargs _ h2]
    simpa using this
   ·rename_i x h1 h2
    cases h1
    split at hk
    ·rename_i t hts
     have e1 := hargs _ h2
     have e2 := hats _ hts
     obtain ⟨F, hx⟩ := h.sop x
     split at hk
     ·rename_i s he
      rw [he] at hx
      have hx := R_sc hx
      refine so_val h hd hn (hbi (.int .i64 s.size) ?_) (R_sc_mk rfl) hk.2
      intro ks
      rw [e1, e2]
      simp -implicitDefEqProofs -dsimp [builtin, Builtin.len_, run_underlying (isStr_ok hk.1), hx, goInt]
     ·split at hk
      ·rename_i p xs rd hT hlv
       obtain ⟨A, c, hv, _⟩ := h.lv hx hlv
       obtain ⟨e, Te⟩ := p
       refine so_val h hd hn (hbi (.int .i64 xs.length) ?_) (R_sc_mk rfl) hk
       intro ks
       rw [e1, e2]
       simp -implicitDefEqProofs -dsimp [builtin, Builtin.len_, run_underlying (slTy_ok hT).1, hv, goInt]
      ·exact hk.elim
    ·exact hk.elim
   ·rename_i x y h1 h2
    cases h1
    have e1 := hargs _ h2
    obtain ⟨F, hx⟩ := h.sop x
    obtain ⟨F', hy⟩ := h.sop y
    split at hk
    ·rename_i k p k' q he1 he2
     rw [he1] at hx
     rw [he2] at hy
     have hx := R_sc hx
     have hy := R_sc hy
     refine so_val h hd hn (hbi (.int k (max p q)) ?_) (R_sc_mk rfl) hk.2
     have : max p q = if q > p then q else p := by rw [Int.max_def]; split <;> split <;> omega
     intro ks
     rw [e1, this]
     simp -implicitDefEqProofs -dsimp [builtin, Builtin.max_, Builtin.max2, hx, hy]
    ·exact hk.elim
   ·rename_i x y h1 h2
    cases h1
    have e1 := hargs _ h2
    obtain ⟨F, hx⟩ := h.sop x
    obtain ⟨F', hy⟩ := h.sop y
    split at hk
    ·rename_i k p k' q he1 he2
     rw [he1] at hx
     rw [he2] at hy
     have hx := R_sc hx
     have hy := R_sc hy
     refine so_val h hd hn (hbi (.int k (min p q)) ?_) (R_sc_mk rfl) hk.2
     have : min p q = if q < p then q else p := by rw [Int.min_def]; split <;> split <;> omega
     intro ks
     rw [e1, this]
     simp -implicitDefEqProofs -dsimp [builtin, Builtin.min_, Builtin.min2, hx, hy]
    ·exact hk.elim
   ·exact hk.elim
 | _ => exact (by simp only [wpop, wpo] at hk)
end
end Go.Proofs.YtlfblkekbcfjpaaGreatDoor
