/- Part of a proof: contracts and plain laws. -/
import Derived.Test.YtlfblkekbcfjpaaGreatDoorZ48
import Derived.Test.YtlfblkekbcfjpaaGreatDoorChecked
import Derived.Lay
set_option linter.unusedVariables false
set_option linter.unusedSimpArgs false
namespace Go.Proofs.YtlfblkekbcfjpaaGreatDoor
open Go.ChangeShapes Go.WideShapes Go.ChangeAt Go.RowKit
set_option maxRecDepth 100000
theorem lawOwn : ownKnob Tryz.prog.godebug = none := by kernel_rfl
theorem lawLaid : laidOutB Tryz.prog = true := by kernel_rfl
theorem opensByteS : Opens Tryz.prog 22 (List UInt8) := opens_slice Tryz.underlying22 (by kernel_rfl) (by decide) (opens_byte Tryz.underlying5)
theorem fnExactAdmit_lifted (os : Os) (started : os.Started) (H : Type) (enc : TypeId × Value → H) :
  ReturnsInHanded {} Tryz.checked os 3 .any (fun w args => (Rows.fnExactAdmitSpec.pre enc Tryz.prog Tryz.f3 [] false w args ∧ laidMetH Tryz.prog Rows.fnExactAdmitRow.laid w) ∧ sizedMet enc Tryz.prog Tryz.f3 (OpenSpec.ofChange Rows.fnExactAdmitSpec) false w args) (Rows.fnExactAdmitSpec.post enc Tryz.prog Tryz.f3 false true false false) := by
 refine returnsInHanded_of_change_and (C := Tryz.checked) (X := fun w _ => laidMetH Tryz.prog Rows.fnExactAdmitRow.laid w) (fun _ _ _ hh h => h.of_heap hh) lawOwn started (by kernel_rfl) Tryz.func3
  (ChangeSpec.witness_shaped (enc := enc) (C := Tryz.checked) (os := os) (X := fun w _ => laidMetH Tryz.prog Rows.fnExactAdmitRow.laid w) false (World.laidAll Tryz.prog os Rows.fnExactAdmitRow.laid) #[.int .i64 0, .slice none 0 0, .agg #[.int .i64 0, .int .i64 0, .int .i64 0]] 8 (World.laidAll_os _ _ _)
   (World.shaped_of_ZipB (by kernel_rfl) (by kernel_rfl)) (by kernel_rfl) (by kernel_rfl) (by kernel_rfl)
   (by rw [MakeChecks.laidMetH_plain _ _ _ (by kernel_rfl)]; exact laidMet_laidAll _ (by kernel_rfl) (by kernel_rfl))) ?_
 intro W base args ds gs before hval0 hW _ _ hL _
 have hval : ∀ (j : Nat) t v, Tryz.f3.params[j]? = some t → args[j]? = some v → Value.okWide Tryz.prog W .any base t v := hval0
 have hW' := hW
 obtain ⟨p, q, hA0, hV, rfl, hfz, hnd⟩ := hW
 have hA : DataW.TrodAll enc Tryz.prog W 0 (fun _ => true) true Tryz.f3.params.toList args.toList ds p := hA0
 rw [Tryz.params3] at hA hval
 obtain ⟨v0, vs0, d0, ds0, p0, q0, hargs, rfl, rfl, ⟨n0, h0⟩, r0⟩ := trodAll_cons hA
 obtain ⟨v1, vs1, d1, ds1, p1, q1, rfl, rfl, rfl, ⟨n1, h1⟩, r1⟩ := trodAll_cons r0
 obtain ⟨v2, vs2, d2, ds2, p2, q2, rfl, rfl, rfl, ⟨n2, h2⟩, r2⟩ := trodAll_cons r1
 obtain ⟨rfl, rfl, rfl⟩ := trodAll_nil r2
 obtain rfl : args = #[v0, v1, v2] := by cases args; simp_all
 obtain ⟨rfl, rfl⟩ := trodVars_none hV
 obtain ⟨x0, rfl⟩ := okWide_int Tryz.underlying3 (hval 0 _ v0 rfl rfl)
 have I0 := i64_of Tryz.underlying3 h0
 obtain ⟨a1, len1, cap1, rfl⟩ := okWide_slice Tryz.underlying22 (hval 1 _ v1 rfl rfl)
 obtain ⟨x1, hx1⟩ := opensByteS H enc W n1 _ _ h1
 obtain ⟨A1, c1, e1, s1⟩ := hx1.sa
 simp only [Value.cells, List.cons.injEq, and_true, Value.slice.injEq] at e1
 obtain ⟨rfl, rfl, rfl⟩ := e1
 obtain ⟨cs2, rfl, _⟩ := okWide_struct Tryz.underlying24 (hval 2 _ v2 rfl rfl)
 obtain ⟨u0, u1, u2, y0, y1, y2, m, _, e2, g0, g1, g2⟩ := struct3 Tryz.underlying24 (by kernel_rfl) (by kernel_rfl) h2
 obtain ⟨l0, F0, ⟨rfl, k0, J0⟩, _⟩ := opens_int Tryz.underlying3 H enc W m _ _ g0
 obtain ⟨l1, F1, ⟨rfl, k1, J1⟩, _⟩ := opens_int Tryz.underlying3 H enc W m _ _ g1
 obtain ⟨l2, F2, ⟨rfl, k2, J2⟩, _⟩ := opens_int Tryz.underlying3 H enc W m _ _ g2
 simp only [List.cons.injEq, and_true] at k0 k1 k2
 subst k0 k1 k2
 obtain ⟨cs2⟩ := cs2
 simp only [Value.cells] at e2
 subst e2
 clear hA0 hval0
 refine (fnExactAdmit_walk x0 x1 _ _ l0 l1 l2 W s1 (TbK_of (tabs_of hL)) I0 J0 J1 J2).mono fun e W' ⟨he, hb⟩ => ?_
 subst he
 exact ⟨_, rfl, law_post rfl (by kernel_rfl) Tryz.underlying4 lawLaid (by kernel_rfl) rfl hW' hb⟩
end Go.Proofs.YtlfblkekbcfjpaaGreatDoor
