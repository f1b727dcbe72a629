/- How much the paths of the values of a kind hold. No program in sight. -/
import Derived.Test.YtblcmajhdndmfaaTree
import Derived.Test.YtblcmajhdndmfaaMark2
namespace Go.Proofs.Ytblcmajhdndmfaa
open Go.RowKit
set_option linter.unusedVariables false
set_option maxRecDepth 100000

theorem cntP_le {m : Nat} : ∀ (l : List (List GStep)), (∀ x, x ∈ l → x.length ≤ m) → cntP l ≤ 2 * m * l.length
  | [], _ => by simp [cntP]
  | x :: l, h => by
    rw [cntP_cons, List.length_cons, Nat.mul_add]
    have h1 := cntP_le l fun y hy => h y (List.mem_cons_of_mem _ hy)
    have h2 := h x (List.mem_cons_self ..)
    omega
theorem findG_cntEach (v : GVal) (kind : Int) (hn : bulkVal v ≤ 1048576) : ∀ x, x ∈ findG v kind → x.length ≤ 4194304 := fun x hx => by
  have := pathsG_deep v [] x (List.mem_filter.1 hx).1
  simp at this; omega
theorem findG_cntLen (v : GVal) (kind : Int) (hn : bulkVal v ≤ 1048576) : (findG v kind).length ≤ 4194304 := by
  have h1 := pathsG_len v []
  have h2 : (findG v kind).length ≤ (pathsG [] v).length := List.length_filter_le _ _
  omega
theorem findG_cnt (v : GVal) (kind : Int) (hn : bulkVal v ≤ 1048576) : (1 : Int) + cntP (findG v kind) ≤ 1000000000000000 := by
  have h1 := cntP_le (findG v kind) (findG_cntEach v kind hn)
  have h2 := findG_cntLen v kind hn
  have h3 : 2 * 4194304 * (findG v kind).length ≤ 2 * 4194304 * 4194304 := Nat.mul_le_mul_left _ h2
  omega
end Go.Proofs.Ytblcmajhdndmfaa
