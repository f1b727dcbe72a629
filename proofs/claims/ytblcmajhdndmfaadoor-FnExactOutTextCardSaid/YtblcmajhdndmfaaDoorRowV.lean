/- An argument of the type of trees that reads as data reads as a tree. -/
import Derived.Test.YtblcmajhdndmfaaDoorTypes
import Derived.Test.YtblcmajhdndmfaaDoorVal
namespace Go.Proofs.YtblcmajhdndmfaaDoor
open Go.ChangeShapes Go.WideShapes Go.ChangeAt Go.RowKit
set_option linter.unusedVariables false
set_option maxRecDepth 100000

section
variable {P : Program}
theorem opensTo_val {t : TypeId} {f0 f1 f2 f3 f4 : Field} (ht : P.underlying t = some (.struct #[f0, f1, f2, f3, f4])) (hone : Deep.oneCellFields P #[f0, f1, f2, f3, f4] = true) (hC : P.cellsOf t = 5)
    (h0 : P.underlying f0.type = some (.int .i64)) (h1 : P.underlying f1.type = some (.int .i64)) (h2 : P.underlying f2.type = some (.int .i64)) (h3 : P.underlying f3.type = some .string) (h4 : P.underlying f4.type = some (.slice t)) :
    ∀ n, OpensTo P n t GVal
  | 0 => by
    intro H enc w m cs x hm h
    obtain ⟨_, _, _, _, _, _, _, _, _, _, n, rfl, _⟩ := struct5 ht hone hC h
    omega
  | n + 1 => by
    intro H enc w m cs x hm h
    obtain ⟨c0, c1, c2, c3, c4, y0, y1, y2, y3, y4, k, rfl, rfl, g0, g1, g2, g3, g4⟩ := struct5 ht hone hC h
    obtain ⟨a0, _, ⟨rfl, e0, I0⟩, _⟩ := opens_int h0 H enc w k _ _ g0
    obtain ⟨a1, _, ⟨rfl, e1, I1⟩, _⟩ := opens_int h1 H enc w k _ _ g1
    obtain ⟨a2, _, ⟨rfl, e2, I2⟩, _⟩ := opens_int h2 H enc w k _ _ g2
    obtain ⟨s, _, ⟨rfl, e3, hs⟩, _⟩ := opens_string h3 H enc w k _ _ g3
    obtain ⟨l, hl⟩ := (opensTo_slice h4 hC (by decide) (opensTo_val ht hone hC h0 h1 h2 h3 h4 n)) H enc w k _ _ (by omega) g4
    obtain ⟨A, c, e4, hsa⟩ := hl.sa
    simp only [List.cons.injEq, and_true] at e0 e1 e2 e3 e4
    subst e0 e1 e2 e3 e4
    exact ⟨⟨a0, a1, a2, s, l⟩, RA.val (v := ⟨a0, a1, a2, s, l⟩) ⟨I0, I1, I2, hs⟩ hsa⟩
end
theorem opensVal : Opens Tryd.prog 31 GVal := Opens.of (opensTo_val Tryd.underlying31 (by kernel_rfl) (by kernel_rfl) Tryd.underlying3 Tryd.underlying3 Tryd.underlying3 Tryd.underlying9 Tryd.underlying29)
end Go.Proofs.YtblcmajhdndmfaaDoor
