/- Proved: for all arguments the program's Summary returns what the reference's returns, and leaves its arguments as they were. Condition: the library's tables stand as the row lists them; the card ties them to the program's text. -/
import Derived.Test.YtblcmajhdndmfaaDoorSummary2
import Derived.Test.YtblcmajhdndmfaaDoorLaw4
import Derived.Test.YtblcmajhdndmfaaDoorTypes
import Derived.Test.YtblcmajhdndmfaaDoorCards
import Derived.Test.YtblcmajhdndmfaaDoorTie
import Derived.ProofKit
import Derived.LaidMore
import Derived.OpenShut
import Derived.Stop.Joined
import Derived.Stop.LaidErr
import Derived.Lib.LaidTab
import Derived.SevenTiedAt
namespace Go.Proofs.YtblcmajhdndmfaaDoor
open Go.ChangeShapes Go.WideShapes Go.ChangeAt Go.RowKit
set_option linter.unusedVariables false
set_option maxRecDepth 100000

theorem fnExactSummary_walk (l : List GOut) (A0 : Option Addr) (c0 : Nat) (w : World) (h0_0 : SA w l A0 c0) (ht : Tab w) :
    Calls Tryd.prog 3 #[.slice A0 l.length c0] w (Ret w (.bool true)) := by
  have w0 := Lib.hid (bRf w)
  have HT := Lib.hid ht; clear ht
  have H0_0 := Lib.hid h0_0; clear h0_0
  obtain ⟨r, hr⟩ : ∃ r, r = sumTo l l.length := ⟨_, rfl⟩
  have hrr : (r.toList == r.toList) = true := by simp
  have R := Lib.hid hr; clear hr
  go_enter Tryd.func3, Tryd.ntmps3
  go_wp2_with fail
  refine (szOutS_any l A0 c0 1048576 _ (by omega) (by omega) (H0_0.out.below w0.out)).mono ?_
  rintro e ws0 ⟨rfl, hbws0⟩
  have bwws0 := Lib.hid (bTr w0.out hbws0)
  clear hbws0
  rcases lft_cases (left := 1048576) (k := bulkOutS l) (by omega) with L0 | ⟨l0, L0, l0lo, l0hi, l0k⟩
  · rw [L0]
    clear L0
    go_wp2_with fail
    go_ret
    exact ⟨rfl, bwws0.out⟩
  rw [L0]
  clear L0
  have N0 : bulkOutS l ≤ 1048576 := by omega
  go_wp2_with fail
  refine (toOutS_any l A0 c0 _ N0 (H0_0.out.below bwws0.out)).mono ?_
  rintro e wt1 ⟨B1, d1, rfl, hs1, hbwt1⟩
  have bwwt1 := Lib.hid (bTr bwws0.out hbwt1)
  clear hbwt1
  have T1 := Lib.hid (hs1.sa); clear hs1
  have rwt1 := Lib.hid (bRf wt1)
  go_wp2_with fail
  refine (specSummary_any l B1 d1 _ N0 (T1.out.below rwt1.out)).mono ?_
  rintro e wsp hpost
  obtain ⟨rfl, hbwsp⟩ := hpost
  have bwwsp := Lib.hid (bTr bwwt1.out hbwsp)
  have bwt1wsp := Lib.hid (bTr rwt1.out hbwsp)
  clear hbwsp
  rw [← R.out]
  go_wp2_with fail
  refine (toOutS_any l A0 c0 _ N0 (H0_0.out.below bwwsp.out)).mono ?_
  rintro e wt2 ⟨B2, d2, rfl, hs2, hbwt2⟩
  have bwwt2 := Lib.hid (bTr bwwsp.out hbwt2)
  clear hbwt2
  have T2 := Lib.hid (hs2.sa); clear hs2
  have rwt2 := Lib.hid (bRf wt2)
  go_wp2_with fail
  refine (implSummary_any l B2 d2 _ N0 (T2.out.below rwt2.out) (HT.out.below bwwt2.out)).mono ?_
  rintro e wim hpost
  obtain ⟨rfl, hbwim⟩ := hpost
  have bwwim := Lib.hid (bTr bwwt2.out hbwim)
  have bwt2wim := Lib.hid (bTr rwt2.out hbwim)
  clear hbwim
  rw [← R.out]
  go_wp2_with fail
  refine (toOutS_any l A0 c0 _ N0 (H0_0.out.below bwwim.out)).mono ?_
  rintro e wt3 ⟨B3, d3, rfl, hs3, hbwt3⟩
  have bwwt3 := Lib.hid (bTr bwwim.out hbwt3)
  have bwt2wt3 := Lib.hid (bTr bwt2wim.out hbwt3)
  clear hbwt3
  have T3 := Lib.hid (hs3.sa); clear hs3
  have rwt3 := Lib.hid (bRf wt3)
  go_wp2_with fail
  refine (eqOutS_any l l B2 B3 d2 d3 _ (T2.out.below bwt2wt3.out) (T3.out.below rwt3.out)).mono ?_
  rintro e we0 ⟨rfl, hbwe0⟩
  have bwwe0 := Lib.hid (bTr bwwt3.out hbwe0)
  have bwt2we0 := Lib.hid (bTr bwt2wt3.out hbwe0)
  have bwt3we0 := Lib.hid (bTr rwt3.out hbwe0)
  clear hbwe0
  rw [decide_eq_true rfl]
  go_wp2_with fail
  go_ret
  exact ⟨rfl, bwwe0.out⟩


theorem fnExactSummary_gTab : Tryd.prog.globalNamed (Rows.fnExactSummaryRow.named.headD "") = some 0 := by kernel_rfl
theorem fnExactSummary_met (os : Os) (args : Array Value) : laidMetH Tryd.prog Rows.fnExactSummaryRow.laid ((World.doorLaid Tryd.prog 24 os).forCall (fun _ _ => 0) ⟨#[], args, []⟩).memory :=
  laidMetH_of_parts3 (fuel := 8) (laidMet_of_run' 8 (by kernel_rfl) (by kernel_rfl)) (by kernel_rfl) (by kernel_rfl)
theorem fnExactSummary_tab {W : World} (h : laidMetH Tryd.prog Rows.fnExactSummaryRow.laid W) : Tab W := by
  rw [MakeChecks.laidMetH_plain _ _ _ (by kernel_rfl)] at h
  have h2 := h.tail.tail
  exact Lib.tabIs_of_head fnExactSummary_gTab (show _ = some 115 by kernel_rfl) Tryd.underlying115 Tryd.underlying105 (by kernel_rfl) (by kernel_rfl) h2

theorem fnExactSummary_lifted (os : Os) (started : os.Started) (H : Type) (enc : TypeId × Value → H) :
    ReturnsInHanded {} Tryd.checked os 3 .any (fun w args => (Rows.fnExactSummarySpec.pre enc Tryd.prog Tryd.f3 [] false w args ∧ laidMetH Tryd.prog Rows.fnExactSummaryRow.laid w) ∧ sizedMet enc Tryd.prog Tryd.f3 (OpenSpec.ofChange Rows.fnExactSummarySpec) false w args) (Rows.fnExactSummarySpec.post enc Tryd.prog Tryd.f3 false true false false) := by
  refine returnsInHanded_of_change_and (C := Tryd.checked) (X := fun w _ => laidMetH Tryd.prog Rows.fnExactSummaryRow.laid w) (fun _ _ _ hh h => h.of_heap hh) lawOwn started (by kernel_rfl) Tryd.func3
    (ChangeSpec.witness_shaped (enc := enc) (C := Tryd.checked) (os := os) (X := fun w _ => laidMetH Tryd.prog Rows.fnExactSummaryRow.laid w) false (World.doorLaid Tryd.prog 24 os) #[.slice none 0 0] 8 rfl (World.shaped_of_RefB (by kernel_rfl) (by kernel_rfl)) (by kernel_rfl) (by kernel_rfl) (by kernel_rfl) (fnExactSummary_met os _)) ?_
  intro W base args ds gs before hval0 hW _ _ hL _
  have hval : ∀ (j : Nat) t v, Tryd.f3.params[j]? = some t → args[j]? = some v → Value.okWide Tryd.prog W .any base t v := hval0
  have hW' := hW
  obtain ⟨p, q, hA0, hV, rfl, hfz, hnd⟩ := hW
  have hA : DataW.TrodAll enc Tryd.prog W 0 (fun _ => true) true Tryd.f3.params.toList args.toList ds p := hA0
  rw [Tryd.params3] at hA hval
  obtain ⟨v0, vs0, d0, ds0, p0, q0, hargs, rfl, rfl, ⟨n0, h0⟩, r0⟩ := trodAll_cons hA
  obtain ⟨rfl, rfl, rfl⟩ := trodAll_nil r0
  obtain rfl : args = #[v0] := by cases args; simp_all
  obtain ⟨rfl, rfl⟩ := trodVars_none hV
  obtain ⟨a0, len0, cap0, rfl⟩ := okWide_slice Tryd.underlying22 (hval 0 _ v0 rfl rfl)
  obtain ⟨x0, hx0⟩ := opensOutS H enc W n0 _ _ h0
  obtain ⟨A0, c0, e0, s0⟩ := hx0.sa
  simp only [Value.cells, List.cons.injEq, and_true, Value.slice.injEq] at e0
  obtain ⟨rfl, rfl, rfl⟩ := e0
  clear hA0 hval0
  refine (fnExactSummary_walk x0 _ _ W s0 (fnExactSummary_tab hL)).mono fun e W' ⟨he, hb⟩ => ?_
  subst he
  exact ⟨_, rfl, law_post rfl (by kernel_rfl) Tryd.underlying4 lawLaid (by kernel_rfl) rfl hW' hb⟩

theorem fnExactSummary_holds : Rows.FnExactSummarySaid :=
  OpenClaim.holds_of_wide 3 Tryd.f3 rfl rfl rfl rfl rfl rfl rfl ⟨rfl, rfl, rfl, rfl, rfl⟩ rfl rfl rfl rfl rfl (by kernel_rfl) Tryd.func3 (by kernel_rfl)
    (of_decide_eq_true (by kernel_rfl)) (by unfold Func.isWrapper; first | (rw [if_pos (by decide +kernel)]; kernel_rfl) | (rw [if_neg (by decide +kernel)]; exact ⟨rfl, rfl⟩))
    (fun os started H enc _ => fnExactSummary_lifted os started H enc)

theorem fnExactSummaryCard_holds : Rows.FnExactSummaryCardSaid :=
  Claim7.holds_tied_plain_at .later [] [.data, .data, .data] true (true, "eab5b78f00f343b2c98cb9978e9c6f936d6d4b66eda5b26c81dae2dd05567f3c") false
    fnExactSummary_holds (fun _ h => by cases h) (by kernel_rfl) (fun _ h => by cases h) fnExactSummary_row_tie rfl ⟨rfl, rfl⟩ (by kernel_rfl) rfl
    (fun f fn hf hfn => by
      obtain rfl : f = 3 := Option.some.inj ((show Tryd.prog.funcNamed Rows.fnExactSummaryRow.func = some 3 by kernel_rfl).symm.trans hf) |>.symm
      obtain rfl : fn = Tryd.f3 := (Option.some.inj (Tryd.func3.symm.trans hfn)).symm
      exact ⟨by kernel_rfl, fun j t ht => by
        rw [Tryd.params3] at ht
        have hm : t ∈ [22] := by simpa using Array.mem_of_getElem? ht
        have hall : ([22].all fun u => !Tryd.prog.wantsStandIn u) = true := by kernel_rfl
        exact (show Tryd.prog.wantsStandIn t = false by simpa using List.all_eq_true.1 hall t hm)⟩)
    (by kernel_rfl)
end Go.Proofs.YtblcmajhdndmfaaDoor
