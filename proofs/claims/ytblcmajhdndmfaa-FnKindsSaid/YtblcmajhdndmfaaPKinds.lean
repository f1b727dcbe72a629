/- Proved: for every code of a tree, for every kind that KindsIn reports there is a value of this kind, the kinds ascend and bear names, and together their values are all values. No conditions. -/
import Derived.Test.YtblcmajhdndmfaaDrawG
import Derived.Test.YtblcmajhdndmfaaKindsL
import Derived.Test.YtblcmajhdndmfaaKindsIn2
import Derived.Test.YtblcmajhdndmfaaFind4
import Derived.Test.YtblcmajhdndmfaaBytes
import Derived.Test.YtblcmajhdndmfaaTypes
import Derived.Deep.RegionHeld3
namespace Go.Proofs.Ytblcmajhdndmfaa
open Go.ChangeShapes Go.WideShapes Go.ChangeAt Go.RowKit
set_option linter.unusedVariables false
set_option maxRecDepth 100000

theorem take_sum_le (f : Int → Nat) (l : List Int) (i : Nat) : ((l.take i).map f).sum ≤ (l.map f).sum := by
  conv => rhs; rw [← List.take_append_drop i l]
  rw [List.map_append, List.sum_append]; omega
/-- What the law asks at the kind with number i. -/
structure KAt (v : GVal) (r : List Int) (i : Nat) (q : Nat) (m m' : Nat) : Prop where
  cnt : (findG v (r.getD i 0)).length = q
  pos : 1 ≤ q
  sum : m' = m + q
  le : m' ≤ 1048577
  lo : 1 ≤ r.getD i 0
  hi : r.getD i 0 ≤ 11
  asc : 0 < i → r.getD (i - 1) 0 < r.getD i 0
theorem kAt {v : GVal} {r : List Int} (hr : r = kindsG v) (hn : bulkVal v ≤ 1048576) (hk : KOk v) {i : Nat} (hi : i < r.length) :
    KAt v r i ((kindL v).count r[i]) ((r.take i).map fun k => (kindL v).count k).sum ((r.take (i + 1)).map fun k => (kindL v).count k).sum := by
  have hm : r[i] ∈ kindsG v := hr ▸ List.getElem_mem hi
  have hg : r.getD i 0 = r[i] := by simp [List.getD, List.getElem?_eq_getElem hi]
  obtain ⟨u, hu, hku⟩ := kinds_some hm
  have h1 := hk u hu
  rw [hku] at h1
  refine ⟨by rw [hg]; exact findG_cnt' v _, kinds_pos hm, sum_take r i hi, ?_, by rw [hg]; exact h1.1, by rw [hg]; exact h1.2, fun h0 => ?_⟩
  · have h2 := take_sum_le (fun k => (kindL v).count k) r (i + 1)
    have h3 := kinds_all v
    rw [← hr] at h3
    have h4 := preG_len v
    omega
  · have ha := (kindsG_asc v).1
    rw [← hr] at ha
    exact asc_get ha (by omega) hi

theorem intAt' {w : World} {l : List Int} {A : Option Addr} {c : Nat} (h : SA w l A c) {i : Nat} (hi : i < l.length) :
    ∃ b off, A = some ⟨b, off, none⟩ ∧ b < w.heap.size ∧ w.cell? ⟨b, off + i, none⟩ = some (.int .i64 (l.getD i 0)) ∧ ∀ j, i = j + 1 → w.cell? ⟨b, off + j, none⟩ = some (.int .i64 (l.getD j 0)) := by
  obtain ⟨b, off, hA, hb, _, hx⟩ := h.int_at hi
  refine ⟨b, off, hA, hb, by simpa [List.getD, List.getElem?_eq_getElem hi] using hx, fun j hj => ?_⟩
  obtain ⟨b', off', hA', _, _, hx'⟩ := h.int_at (show j < l.length by omega)
  rw [hA] at hA'; injection hA' with e; injection e with e1 e2; subst e1 e2
  simpa [List.getD, List.getElem?_eq_getElem (show j < l.length by omega)] using hx'

set_option maxHeartbeats 4000000 in
theorem fnKinds_walk (code : List UInt8) (A0 : Option Addr) (c0 : Nat) (w : World) (h0 : SA w code A0 c0) :
    Calls Try.prog 10 #[.slice A0 code.length c0] w (Ret w (.bool true)) := by
  have H := Lib.hid h0; clear h0
  by_cases hbig : 1048576 < code.length
  · have hd := Lib.hid (decide_eq_true hbig)
    go_enter Try.func10, Try.ntmps10
    go_wp2_with fail
    refine (big_any code A0 c0 w).mono ?_
    rintro e w1 ⟨rfl, hb⟩
    rw [hd.out]
    have b1 := Lib.hid hb; clear hb
    go_wp2_with fail
    go_ret
    exact ⟨rfl, b1.out⟩
  have hd := Lib.hid (decide_eq_false hbig)
  have hlen : code.length ≤ 1048576 := by omega
  clear hbig
  go_enter Try.func10, Try.ntmps10
  go_wp2_with fail
  refine (big_any code A0 c0 w).mono ?_
  rintro e w1 ⟨rfl, hb⟩
  rw [hd.out]
  have b1 := Lib.hid hb
  have H1 := Lib.hid (H.out.below hb); clear hb
  go_wp2_with fail
  refine (DrawVal_any code A0 c0 w1 hlen H1.out).mono ?_
  rintro e w2 ⟨v, Av, cv, rfl, hsf, hI, hbk, hk, hb⟩
  have b2 := Lib.hid (bAl (bTr b1.out hb) (.cells #[.int .i64 v.kind, .int .i64 v.n, .int .i64 v.x, .string v.s, .slice Av v.l.length cv] 40))
  have V2 := Lib.hid (hsf.sa.below (bAl (bRf w2) (.cells #[.int .i64 v.kind, .int .i64 v.n, .int .i64 v.x, .string v.s, .slice Av v.l.length cv] 40)))
  have HI := Lib.hid hI
  have HN := Lib.hid (show bulkVal v ≤ 1048576 by omega)
  have HK := Lib.hid hk
  have PB := Lib.hid (Blk.new w2 40 #[.int .i64 v.kind, .int .i64 v.n, .int .i64 v.x, .string v.s, .slice Av v.l.length cv])
  clear hsf hI hbk hk hb
  obtain ⟨r, hr⟩ : ∃ r, r = kindsG v := ⟨_, rfl⟩
  have R := Lib.hid hr; clear hr
  have K1 : r.length ≤ 4194304 := by rw [R.out]; unfold kindsG; have h1 := insFold_len ((pathsG [] v).map fun p => (zv (atG v p)).kind) []; rw [List.length_map] at h1; have h2 := pathsG_len v []; have := HN.out; simp only [List.length_nil] at h1; omega
  obtain ⟨z0, z1, z2, z3, z4⟩ := PB.out.c5
  go_wp2_with fail
  have him := implKindsIn_any v Av cv (w2.alloc (.cells #[.int .i64 v.kind, .int .i64 v.n, .int .i64 v.x, .string v.s, .slice Av v.l.length cv] 40)) HN.out HI.out V2.out
  rw [← R.out] at him
  refine him.mono ?_
  clear him z0 z1 z2 z3 z4
  rintro e w3 ⟨G, j, rfl, hs, hb⟩
  have b3 := Lib.hid (bTr b2.out hb)
  have P3 := Lib.hid (PB.out.below hb)
  have V3 := Lib.hid (V2.out.below hb)
  have S3 := Lib.hid hs.sa; clear hs hb
  have hz3 : w2.heap.size < w3.heap.size := P3.out.lt
  go_wp2_with fail
  go_loopg [5, 6] r.length (fun gk s i wr => ∃ k m : Nat, k ≤ r.length ∧ s = .int .i64 m ∧ Hid (m = ((r.take k).map fun k => (kindL v).count k).sum) ∧ i = .int .i64 k ∧ gk = r.length - k ∧ Below w3.heap.size w3 wr)
  case atStart => exact ⟨0, 0, by omega, rfl, by show _ = _; simp, rfl, by omega, bRf w3⟩
  case round =>
    obtain ⟨k, m, hk, rfl, hm, rfl, rfl, hbel⟩ := hrel
    have HB := Lib.hid hbel; clear hbel
    have P4 := Lib.hid (P3.out.below HB.out)
    obtain ⟨z0, z1, z2, z3, z4⟩ := P4.out.c5
    by_cases hlt : k < r.length
    · obtain ⟨q, hq⟩ : ∃ q, q = (kindL v).count r[k] := ⟨_, rfl⟩
      obtain ⟨m', hm'⟩ : ∃ m', m' = ((r.take (k + 1)).map fun k => (kindL v).count k).sum := ⟨_, rfl⟩
      have hA := kAt R.out HN.out HK.out hlt
      rw [← hq, ← hm', ← hm.out] at hA
      have HM := Lib.hid hm'
      clear hq hm'
      obtain ⟨b, off, rfl, hb, x1, xj⟩ := intAt' (S3.out.below HB.out) hlt
      obtain ⟨a1, ha1⟩ : ∃ a1, a1 = r.getD k 0 := ⟨_, rfl⟩
      rw [← ha1] at x1
      obtain ⟨c1, c2, c3, c4, c5, c6, c7⟩ := hA
      rw [← ha1] at c1 c5 c6 c7
      have hi1 : (k : Int) < r.length := by omega
      have hi0 : (0 : Int) ≤ k := by omega
      have C1 := Lib.hid c1
      have C7 := Lib.hid c7
      clear c1 c7 ha1
      go_wp2_with fail
      go_region_held3 (fun u => u.cell? ⟨w2.heap.size, 0, none⟩ = some (.int .i64 v.kind) ∧ u.cell? ⟨w2.heap.size, 1, none⟩ = some (.int .i64 v.n) ∧ u.cell? ⟨w2.heap.size, 2, none⟩ = some (.int .i64 v.x) ∧ u.cell? ⟨w2.heap.size, 3, none⟩ = some (.string v.s) ∧ u.cell? ⟨w2.heap.size, 4, none⟩ = some (.slice Av v.l.length cv) ∧ u.cell? ⟨b, off + k, none⟩ = some (.int .i64 a1)) (go_keep)
        (first
          | (go_at_call 19; (refine (implCountKind_any v a1 Av cv _ HN.out HI.out ((V3.out.below HB.out).drew)).mono ?_; rintro e w5 ⟨rfl, hb5⟩; rw [C1.out]; have B5 := Lib.hid (bTr (bRf wr).drew hb5); have P5 := Lib.hid (P4.out.below B5.out); obtain ⟨y0, y1, y2, y3, y4⟩ := P5.out.c5; have x5 := (B5.out.cell (p := ⟨b, off + k, none⟩) hb).trans x1; clear hb5)))
      have HC3 := Lib.hid c3
      clear z0 z1 z2 z3 z4 y0 y1 y2 y3 y4
      have hq1 : ¬ ((q : Int) < 1) := by omega
      have gq : decide ((q : Int) < 1) = false := decide_eq_false hq1
      have hmq : m + q ≤ 1048577 := by omega
      have hb5 : b < w5.heap.size := by have := B5.out.size; omega
      clear c3 c4
      rcases Nat.eq_zero_or_pos k with hk0 | hk0
      · subst hk0
        rw [Nat.add_zero] at x1 x5
        go_wp2_with fail
        obtain ⟨sn, hsn⟩ : ∃ sn, sn = kindS a1 := ⟨_, rfl⟩
        have Q := Lib.hid (quietV fun n => (by rw [hsn]; exact implKindName_q a1 (w5.drewN n) c5 c6 : Calls Try.prog 45 #[.int .i64 a1] (w5.drewN n) (RetQ (w5.drewN n) (.string sn))))
        have hne : (sn.toList == (ByteArray.mk #[]).toList) = false := by rw [str_eq, hsn]; exact decide_eq_false (kindS_ne c5 c6)
        have hne' : sn.toList.isEmpty = false := by simpa using hne
        have HSN := Lib.hid hsn; clear hsn hne
        go_quiet ((go_at_call 45; exact Q.out _))
        go_wp2_with fail
        go_roundg (r.length - (0 + 1))
        case measure => omega
        case rel => exact ⟨0 + 1, m + q, by omega, by go_num, by show _ = _; rw [← HM.out, HC3.out], by go_num, rfl, bTr (bTr HB.out B5.out) (below_drewN (bRf w5) _)⟩
      · obtain ⟨k', rfl⟩ : ∃ k', k = k' + 1 := ⟨k - 1, by omega⟩
        have x4 := xj k' rfl
        have x7 := (B5.out.cell (p := ⟨b, off + k', none⟩) hb).trans x4
        obtain ⟨a0, ha0⟩ : ∃ a0, a0 = r.getD k' 0 := ⟨_, rfl⟩
        have hlt0 : ¬ (a1 ≤ a0) := by have := C7.out (by omega); rw [Nat.add_sub_cancel, ← ha0] at this; omega
        rw [← ha0] at x7
        clear x4 ha0 xj x1 hk0
        have hp1 : (k' : Int) < r.length := by omega
        have hp0 : (0 : Int) ≤ k' := by omega
        have g1 : decide ((0 : Int) < k' + 1) = true := decide_eq_true (by omega)
        have g2 : decide (a1 ≤ a0) = false := decide_eq_false hlt0
        go_wp2_with fail
        obtain ⟨sn, hsn⟩ : ∃ sn, sn = kindS a1 := ⟨_, rfl⟩
        have Q := Lib.hid (quietV fun n => (by rw [hsn]; exact implKindName_q a1 (w5.drewN n) c5 c6 : Calls Try.prog 45 #[.int .i64 a1] (w5.drewN n) (RetQ (w5.drewN n) (.string sn))))
        have hne : (sn.toList == (ByteArray.mk #[]).toList) = false := by rw [str_eq, hsn]; exact decide_eq_false (kindS_ne c5 c6)
        have hne' : sn.toList.isEmpty = false := by simpa using hne
        have HSN := Lib.hid hsn; clear hsn hne
        go_quiet ((go_at_call 45; exact Q.out _))
        go_wp2_with fail
        go_roundg (r.length - ((k' + 1) + 1))
        case measure => omega
        case rel => exact ⟨(k' + 1) + 1, m + q, by omega, by go_num, by show _ = _; rw [← HM.out, HC3.out], by go_num, rfl, bTr (bTr HB.out B5.out) (below_drewN (bRf w5) _)⟩
    · have e : k = r.length := by omega
      subst e
      have hcnt : m = cntGv v := by rw [hm.out, List.take_length, R.out, kinds_all]; rfl
      have h1 := cntG_le v
      have h2 := HN.out
      have hcl : cntGv v ≤ 1048577 := by omega
      clear h1 h2
      obtain ⟨q, hq⟩ : ∃ q, q = cntGv v := ⟨_, rfl⟩
      rw [← hq] at hcnt hcl
      subst hcnt
      have HQ := Lib.hid hq; clear hq hm
      go_wp2_with fail
      refine (implCountOf_any v Av cv wr HN.out HI.out (V3.out.below HB.out)).mono ?_
      rintro e w5 ⟨rfl, hb5⟩
      rw [← HQ.out]
      have B5 := Lib.hid hb5; clear hb5 z0 z1 z2 z3 z4
      have P5 := Lib.hid (P4.out.below B5.out)
      obtain ⟨z0, z1, z2, z3, z4⟩ := P5.out.c5
      go_wp2_with fail
      refine (specCountOf_any v Av cv w5 HN.out HI.out ((V3.out.below HB.out).below B5.out)).mono ?_
      rintro e w6 ⟨rfl, hb6⟩
      rw [← HQ.out]
      have B6 := Lib.hid hb6; clear hb6
      go_wp2_with fail
      go_ret
      exact ⟨rfl, bTr (bTr (bTr b3.out HB.out) B5.out) B6.out⟩

theorem fnKinds_lifted (os : Os) (started : os.Started) (H : Type) (enc : TypeId × Value → H) :
    ReturnsInHanded {} Try.checked os 10 .any (Rows.fnKindsSpec.pre6 enc Try.prog Try.f10 Rows.fnKindsRow.domain false) (Rows.fnKindsSpec.post enc Try.prog Try.f10 false true false false) := by
  refine returnsInHanded_of_change (C := Try.checked) lawOwn started (by kernel_rfl) Try.func10
    (ChangeSpec.witness6 (enc := enc) (C := Try.checked) false ⟨#[], #[.slice none 0 0], []⟩ 8 (by kernel_rfl) (by kernel_rfl) (by kernel_rfl) (by kernel_rfl)) ?_
  intro W base args ds gs before hval0 hW _ _
  have hval : ∀ (j : Nat) t v, Try.f10.params[j]? = some t → args[j]? = some v → Value.okWide Try.prog W .any base t v := hval0
  have hW' := hW
  obtain ⟨p, q, hA0, hV, rfl, hfz, hnd⟩ := hW
  have hA : DataW.TrodAll enc Try.prog W 0 (fun _ => true) true Try.f10.params.toList args.toList ds p := hA0
  rw [Try.params10] at hA hval
  obtain ⟨v0, vs0, d0, ds0, p0, q0, hargs, rfl, rfl, ⟨n0, h0⟩, r0⟩ := trodAll_cons hA
  obtain ⟨rfl, rfl, rfl⟩ := trodAll_nil r0
  obtain rfl : args = #[v0] := by cases args; simp_all
  obtain ⟨rfl, rfl⟩ := trodVars_none hV
  obtain ⟨a0, len0, cap0, rfl⟩ := okWide_slice Try.underlying22 (hval 0 _ v0 rfl rfl)
  obtain ⟨x0, hx0⟩ := opensByteS H enc W n0 _ _ h0
  obtain ⟨A0, c0, e0, s0⟩ := hx0.sa
  simp only [Value.cells, List.cons.injEq, and_true, Value.slice.injEq] at e0
  obtain ⟨rfl, rfl, rfl⟩ := e0
  clear hA0 hval0
  refine (fnKinds_walk x0 _ _ W s0).mono fun e W' ⟨he, hb⟩ => ?_
  subst he
  exact ⟨_, rfl, law_post rfl (by kernel_rfl) Try.underlying4 lawLaid (by kernel_rfl) rfl hW' hb⟩

theorem fnKinds_holds : Rows.FnKindsSaid :=
  OpenClaim.holds_of_wide 10 Try.f10 rfl rfl rfl rfl rfl rfl rfl ⟨rfl, rfl, rfl, rfl, rfl⟩ rfl rfl rfl rfl rfl (by kernel_rfl) Try.func10 (by kernel_rfl)
    (of_decide_eq_true (by kernel_rfl)) (by unfold Func.isWrapper; first | (rw [if_pos (by decide +kernel)]; kernel_rfl) | (rw [if_neg (by decide +kernel)]; exact ⟨rfl, rfl⟩))
    (fun os started H enc _ => fnKinds_lifted os started H enc)
end Go.Proofs.Ytblcmajhdndmfaa
