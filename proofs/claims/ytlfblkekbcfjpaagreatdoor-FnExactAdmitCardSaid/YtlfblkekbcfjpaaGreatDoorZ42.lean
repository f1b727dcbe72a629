/- Part of a proof: contracts and plain laws. -/
import Derived.Test.YtlfblkekbcfjpaaGreatDoorZ27
import Derived.Test.YtlfblkekbcfjpaaGreatDoorRows
import Derived.Lib.LaidU8T
import Derived.Lib.LaidCase
import Derived.PinnedBridge
import Derived.Stop.LaidErr
import Derived.LaidMore
set_option linter.unusedVariables false
set_option linter.unusedSimpArgs false
namespace Go.Proofs.YtlfblkekbcfjpaaGreatDoor
open Go
set_option maxRecDepth 100000
set_option maxHeartbeats 2000000
def endB (b : List UInt8) (e : Int) : Bool := decide (0 ≤ e) && decide (b[e.toNat]? = some 255)
def strB (b : List UInt8) (e m n : Int) : Except Int (List UInt8 × Int) :=
 if existP b e n = true ∧ (m = 3 → textOkP (Bs ((b.drop e.toNat).take n.toNat)) = true) then .ok ((b.drop e.toNat).take n.toNat, e + n) else .error 1
def partsF (b : List UInt8) (m : Int) : Nat → Int → Except Int (List UInt8 × Int)
 | 0, _ => .error 1
 | f + 1, e => if endB b e = true then .ok ([], e + 1)
  else if (getHeadP b e).2.2 ≠ 0 then .error (getHeadP b e).2.2
  else if (getHeadP b e).1.1 ≠ m ∨ (getHeadP b e).1.2.2 < 0 then .error 1
  else match strB b (getHeadP b e).2.1 m (getHeadP b e).1.2.1 with
   | .error c => .error c
   | .ok (s, e') => match partsF b m f e' with
    | .error c => .error c
    | .ok (t, e'') => .ok (s ++ t, e'')
def partsQ (b : List UInt8) (m e : Int) := partsF b m (b.length + 1 - e.toNat) e
def simpleP (n w e : Int) : Except Int (GVal × Int) :=
 if w = 0 ∧ n = 20 then .ok (⟨2, 0, 0, ⟨[].toArray⟩, []⟩, e)
 else if w = 0 ∧ n = 21 then .ok (⟨2, 1, 0, ⟨[].toArray⟩, []⟩, e)
 else if w = 0 ∧ n = 22 then .ok (⟨1, 0, 0, ⟨[].toArray⟩, []⟩, e)
 else if w = 1 ∧ 32 ≤ n ∧ n ≤ 34 then .ok (⟨5, n - 32, 0, ⟨[].toArray⟩, []⟩, e)
 else if w = 4 then (match bitsFltP n with
  | some p => .ok (⟨4, p.1, p.2, ⟨[].toArray⟩, []⟩, e)
  | none => .error 1)
 else .error 1
def openF (b : List UInt8) (rd : Int → Except Int (GVal × Int)) (pairs : Bool) : Nat → Bool → Int → Except Int (List GVal × Int)
 | 0, _, _ => .error 1
 | f + 1, o, e => if endB b e = true then (if pairs && o then .error 1 else .ok ([], e + 1))
  else match rd e with
   | .error c => .error c
   | .ok (x, e') => match openF b rd pairs f (!o) e' with
    | .error c => .error c
    | .ok (xs, e'') => .ok (x :: xs, e'')
def openQ (b : List UInt8) (rd : Int → Except Int (GVal × Int)) (pairs o : Bool) (e : Int) := openF b rd pairs (b.length + 1 - e.toNat) o e
def kindE (k n : Int) : Except Int (List GVal × Int) → Except Int (GVal × Int)
 | .error c => .error c
 | .ok (xs, e) => .ok (⟨k, n, 0, ⟨[].toArray⟩, xs⟩, e)
def textE (m : Int) : Except Int (List UInt8 × Int) → Except Int (GVal × Int)
 | .error c => .error c
 | .ok (s, e) => .ok (⟨if m = 3 then 7 else 8, 0, 0, ⟨s.toArray⟩, []⟩, e)
def tightB (b : List UInt8) (rd : Int → Except Int (GVal × Int)) (m n w e : Int) : Except Int (GVal × Int) :=
 if m = 0 then .ok (⟨3, n, 0, ⟨[].toArray⟩, []⟩, e)
 else if m = 1 then (if 1000000000000000 ≤ n then .error 2 else .ok (⟨3, -1 - n, 0, ⟨[].toArray⟩, []⟩, e))
 else if m = 2 ∨ m = 3 then textE m (if w < 0 then partsQ b m e else strB b e m n)
 else if m = 7 then simpleP n w e
 else if m = 6 then kindE 11 n (manyP rd 1 e)
 else if m = 5 then kindE 10 0 (if w < 0 then openQ b rd true false e else manyP rd (2 * n.toNat) e)
 else kindE 9 0 (if w < 0 then openQ b rd false false e else manyP rd n.toNat e)
def tightP (b : List UInt8) : Nat → Int → Except Int (GVal × Int)
 | 0, _ => .error 2
 | d + 1, a => if (getHeadP b a).2.2 ≠ 0 then .error (getHeadP b a).2.2 else tightB b (tightP b d) (getHeadP b a).1.1 (getHeadP b a).1.2.1 (getHeadP b a).1.2.2 (getHeadP b a).2.1
theorem headAt_ok {b : List UInt8} {a : Nat} {m i : Int} {m' n w e : Int} (ha : a < b.length) (h0 : 0 ≤ m ∧ m < 8) (h1 : 0 ≤ i ∧ i < 32) (h : headAt b a m i = ((m', n, w), e, 0)) :
  (a : Int) < e ∧ e ≤ b.length ∧ 0 ≤ n ∧ n ≤ 1000000000000000 ∧ m' = m ∧ (w < 0 → i = 31 ∧ w = -1 ∧ n = 0 ∧ e = a + 1 ∧ m ≠ 0 ∧ m ≠ 1 ∧ m ≠ 6) ∧ (i = 31 → w = -1) ∧ (w = 0 ∨ w = -1 ∨ isW w = true) := by
 unfold headAt at h
 split at h
 ·rename_i hi
  simp +zeta at h; obtain ⟨⟨rfl, rfl, rfl⟩, rfl⟩ := h
  refine ⟨by omega, by omega, by omega, by omega, rfl, fun h => by omega, fun h => by omega, .inl rfl⟩
 ·split at h
  ·split at h
   ·simp +zeta at h
   ·rename_i h2 h3
    simp +zeta at h; obtain ⟨⟨rfl, rfl, rfl⟩, rfl⟩ := h
    refine ⟨by omega, by omega, by omega, by omega, rfl, fun h => ⟨h2, rfl, rfl, rfl, by omega, by omega, by omega⟩, fun h => rfl, .inr (.inl rfl)⟩
  ·split at h
   ·simp +zeta at h
   ·rename_i h2 h3 h4
    have hc : i = 24 ∨ i = 25 ∨ i = 26 ∨ i = 27 := by omega
    split at h
    ·rename_i hE
     split at h
     ·rename_i hG
      have hE2 := existP_iff.1 hE
      have hp : (0 : Int) < 2 ^ (i - 24).toNat := Int.pow_pos (by omega)
      have hw : isW (2 ^ (i - 24).toNat) = true := by rcases hc with rfl | rfl | rfl | rfl <;> decide
      have hb : 0 ≤ (getBigP b (a + 1) (2 ^ (i - 24).toNat)).1 ∧ (getBigP b (a + 1) (2 ^ (i - 24).toNat)).1 ≤ 1000000000000000 := by
       unfold getBigP at hG ⊢
       split at hG
       ·rename_i hh; rw [if_pos hh]; simp only; omega
       ·cases hG
      generalize (getBigP b (a + 1) (2 ^ (i - 24).toNat)).1 = N at *
      generalize (2 : Int) ^ (i - 24).toNat = W at *
      simp +zeta only [Prod.mk.injEq] at h
      obtain ⟨⟨rfl, rfl, rfl⟩, rfl, _⟩ := h
      exact ⟨by omega, by omega, by omega, by omega, rfl, fun h => by omega, fun h => by omega, .inr (.inr hw)⟩
     ·simp +zeta at h
    ·simp +zeta at h
theorem head_ok {b : List UInt8} {a m n w e : Int} (h : getHeadP b a = ((m, n, w), e, 0)) :
  0 ≤ a ∧ a < e ∧ e ≤ b.length ∧ 0 ≤ n ∧ n ≤ 1000000000000000 ∧ 0 ≤ m ∧ m < 8 ∧ (w < 0 → w = -1 ∧ n = 0 ∧ m ≠ 0 ∧ m ≠ 1 ∧ m ≠ 6) ∧ (w = 0 ∨ w = -1 ∨ isW w = true) ∧ (endB b a = true ↔ w < 0 ∧ m = 7) := by
 by_cases hat : 0 ≤ a ∧ a < b.length
 ·obtain ⟨k, rfl⟩ : ∃ k : Nat, a = k := ⟨a.toNat, by omega⟩
  have hk : k < b.length := by omega
  obtain ⟨x, hx⟩ : ∃ x, b[k]? = some x := ⟨_, List.getElem?_eq_getElem hk⟩
  rw [getHeadP_at hx] at h
  have hxl := x.toNat_lt
  obtain ⟨h1, h2, h3, h4, h5, h6, h7, h8⟩ := headAt_ok hk (by omega) (by omega) h
  refine ⟨by omega, h1, h2, h3, h4, by omega, by omega, fun hw => ?_, h8, ?_⟩
  ·have := h6 hw; omega
  ·unfold endB
   rw [Int.toNat_natCast, hx]
   have hx255 : x = 255 ↔ x.toNat = 255 := ⟨fun h => by subst h; rfl, fun h => UInt8.toNat_inj.1 h⟩
   simp +zeta only [Bool.and_eq_true, decide_eq_true_eq, Option.some.injEq]
   constructor
   ·rintro ⟨_, he⟩
    have := hx255.1 he
    have h9 := h7 (by omega)
    omega
   ·rintro ⟨hw, hm⟩
    have := h6 hw
    exact ⟨by omega, hx255.2 (by omega)⟩
 ·rw [getHeadP_no hat] at h; cases h
end Go.Proofs.YtlfblkekbcfjpaaGreatDoor
namespace Go.Proofs.YtlfblkekbcfjpaaGreatDoor
open Go Go.RowKit
set_option maxRecDepth 100000
theorem var?_keep {P : Program} {w w' : World} {n : String} {cs : Array Value} (hb : Below w.heap.size w w') (h : w.var? P n = some cs) : w'.var? P n = some cs := by
 unfold World.var? at h ⊢
 cases hg : P.globalNamed n with
 | none => simp -implicitDefEqProofs -dsimp [hg] at h
 | some g =>
  simp only [hg, Option.bind_some] at h ⊢
  have hlt : g < w.heap.size := by
   rcases Nat.lt_or_ge g w.heap.size with h' | h'
   ·exact h'
   ·simp -implicitDefEqProofs -dsimp [Array.getElem?_eq_none h'] at h
  rw [hb.block g hlt]
  exact h
theorem TbK_of {P : Program} {w : World} (h : Tb P w) : TbK P w := fun w' hf => by
 have hb : Below w.heap.size w w' := ⟨hf.2.1, hf.2.2.1, hf.2.2.2.1, hf.1, fun b hb => hf.2.2.2.2 b hb (by simp -implicitDefEqProofs -dsimp)⟩
 refine ⟨?_, fun g g' h1 h2 => Utf8Tabs_below (h.utf g g' h1 h2) hb, fun g hg => Lib.CaseVar_below (h.cas g hg) hb, ?_⟩
 ·have h1 := h.pow
  unfold Lib.TabIs at h1 ⊢
  exact var?_keep hb h1
 ·obtain ⟨tp, p, h1⟩ := h.err
  exact ⟨tp, p, var?_keep hb h1⟩
theorem gPow : Tryz.prog.globalNamed "internal/strconv.uint64pow10" = some 8 := by kernel_rfl
theorem gErr : Tryz.prog.globalNamed "strconv.ErrSyntax" = some 5 := by kernel_rfl
theorem errStar : "*" ++ "errors.errorString" = "*errors.errorString" := by decide
theorem errRow (u : TypeId) (h : Tryz.prog.typeName? 3 u = some "*errors.errorString") : u = 233 :=
 typeName_ptr_named (nm := "errors.errorString") (by rw [errStar]; kernel_rfl) (by kernel_rfl) (by decide) u (by rw [errStar]; exact h)
theorem caseExtra : CaseExtra Tryz.prog Tryz.lays159_ren := ⟨by kernel_rfl, by kernel_rfl, by kernel_rfl, by kernel_rfl, by kernel_rfl, by kernel_rfl⟩
theorem tabs_of {W : World} (h : laidMetH Tryz.prog Rows.fnExactAdmitRow.laid W) : Tb Tryz.prog W := by
 rw [MakeChecks.laidMetH_plain _ _ _ (by kernel_rfl)] at h
 have h2 := h.tail.tail
 have h5 := h2.tail.tail.tail
 have e1 : Rows.laid_unicode_utf8_first = Lib.firstData := Pinned.utf8First_eq
 have e2 : (Rows.laid_unicode_utf8_acceptRanges : DataW Unit) = Lib.acceptData := by kernel_rfl
 have e3 : Rows.laid_unicode_CaseRanges = Lib.caseData := Pinned.caseRanges_eq
 have h3 := Lib.laidMet.reads h (n := "unicode/utf8.first") (d := Rows.laid_unicode_utf8_first) (.tail _ (.tail _ (.tail _ (.tail _ (.tail _ (.tail _ (.tail _ (.head _))))))))
 have h4 := Lib.laidMet.reads h (n := "unicode/utf8.acceptRanges") (d := Rows.laid_unicode_utf8_acceptRanges) (.tail _ (.tail _ (.tail _ (.head _))))
 have h6 := Lib.laidMet.reads h (n := "unicode.CaseRanges") (d := Rows.laid_unicode_CaseRanges) (.tail _ (.tail _ (.tail _ (.tail _ (.tail _ (.tail _ (.head _)))))))
 rw [e1] at h3
 rw [e2] at h4
 rw [e3] at h6
 refine ⟨Lib.tabIs_of_head gPow (show _ = some 253 by kernel_rfl) Tryz.underlying253 Tryz.underlying175 (by kernel_rfl) (by kernel_rfl) h2, fun g g' hg hg' => ?_, fun g hg => ?_, ?_⟩
 ·obtain rfl := Option.some.inj (gFirst.symm.trans hg)
  obtain rfl := Option.some.inj (gAccept.symm.trans hg')
  exact utf8Tabs_of_readsT (U8Types.of196 Tryz.lays196) ⟨by kernel_rfl, by kernel_rfl, by kernel_rfl, by kernel_rfl, by kernel_rfl, by kernel_rfl, by kernel_rfl⟩ h3 h4
 ·obtain rfl := Option.some.inj (gCase.symm.trans hg)
  exact caseVar_of_reads { Tryz.lays159 with } Tryz.lays159.t206 caseExtra h6
 ·obtain ⟨a, s, hv, _⟩ := laid_sentinel h5 gErr (show _ = some 167 by kernel_rfl) Tryz.underlying167 errRow Tryz.underlying233 Tryz.underlying235 rfl rfl Tryz.underlying9 (by kernel_rfl) (by kernel_rfl)
  exact ⟨_, _, hv⟩
end Go.Proofs.YtlfblkekbcfjpaaGreatDoor
