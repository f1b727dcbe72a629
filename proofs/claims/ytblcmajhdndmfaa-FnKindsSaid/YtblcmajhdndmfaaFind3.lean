/- Contracts: the paths of the values of a kind, in the program: the deletion, the whole. -/
import Derived.Test.YtblcmajhdndmfaaFind2
namespace Go.Proofs.Ytblcmajhdndmfaa
open Go.RowKit
set_option linter.unusedVariables false
set_option maxRecDepth 100000

theorem run_clear_cells {P : Program} (w : World) (t e ty : TypeId) (z u : Value) (ht : P.underlying t = some (.slice e)) (hv : ∀ w, (zeroValue e).run P w = .ok z w) (hz : z.cells = #[u]) (h1 : u.oneCell' = true) (b o n c : Nat) (hn : 0 < n)
    (hc : ∀ j, j < n → (w.cell? ⟨b, o + j, none⟩).isSome = true) (hf : ∀ j, j < n → w.frozen? ⟨b, o + j, none⟩ = false) :
    (Builtin.clear_ #[t] ty #[.slice (some ⟨b, o, none⟩) n c]).run P w = .ok (.tuple #[]) (w.setCells b o (List.replicate n u)) := by
  have hzc : (Builtin.zeroCells z.cells n).toList = List.replicate n u := by
    rw [hz]
    simp [Builtin.zeroCells]
    apply List.ext_getElem
    · simp
    · intro i _ _
      simp [Nat.mod_one]
  have hst := run_storeCells_cells (P := P) b o (List.replicate n u) 0 w (by simpa using hc) (by simpa using hf) (by intro v hv'; rw [List.eq_of_mem_replicate hv']; exact h1)
  simp only [Nat.add_zero] at hst
  obtain ⟨m, rfl⟩ : ∃ m, n = m + 1 := ⟨n - 1, by omega⟩
  simp [Builtin.clear_, run_underlying ht, hv, hzc, hst]

theorem zeroPath (w : World) : (zeroValue 79).run Try.prog w = .ok (.agg #[.slice none 0 0]) w := Try.zeroValue79 w

set_option maxHeartbeats 1000000 in
theorem deleteFuncPath_any (l : List (List GStep)) (g c base : Nat) (w : World) (fn : Nat) (v1 v2 : Value) (f : List GStep → Bool) (hn : l.length ≤ 4194304) (hown : OwnF w base 79 (.slice (some ⟨g, 0, none⟩) l.length c) l) (hbase : base ≤ w.heap.size)
    (hcf : ∀ (a : Array Value) (w : World), (callFunc fn a).run Try.prog w = .ok (.enter fn a) w)
    (H : ∀ (x : List GStep), x ∈ l → ∀ (A' : Option Addr) (c' : Nat) (w1 : World), Below base w w1 → SA w1 x A' c' → Calls Try.prog fn #[.agg #[.slice A' x.length c'], v1, v2] w1 (Ret w1 (.bool (f x)))) :
    Calls Try.prog 75 #[.slice (some ⟨g, 0, none⟩) l.length c, .func (.func fn) #[] #[v1, v2]] w fun e w' => ∃ A' c', e = .returned (.slice A' (l.filter fun x => !f x).length c') ∧ SF base w' (l.filter fun x => !f x) A' c' ∧ Below base w w' := by
  have hlc := hown.sf.2.sa.len
  have hIF := indexFuncPath_any l (some ⟨g, 0, none⟩) c w fn v1 v2 f hown.sf.2.sa hcf (fun x hx A' c' w1 hb hs => H x hx A' c' w1 (hb.mono hbase) hs)
  have hc2 : c ≤ 9223372036854775807 := by have := hlc.2; unfold maxLen at this; omega
  have hc1 : l.length ≤ c := hlc.1
  rcases idxOf_cases f l with ⟨h1, h2⟩ | ⟨i0, hi0, h1, h2, h3⟩
  · rw [h1] at hIF
    rw [h2]
    have HI := Lib.hid (And.intro hIF hown); clear hIF hown H hcf
    go_enter Try.func75, Try.ntmps75
    go_wp2_with fail
    refine HI.out.1.mono ?_
    rintro e w1 ⟨rfl, hb1⟩
    go_wp2_with fail
    go_ret
    exact ⟨_, c, rfl, (HI.out.2.below hb1).sf.2, hb1.mono hbase⟩
  · rw [h1] at hIF
    have HI := Lib.hid (And.intro hIF hown); clear hIF hown
    have HH := Lib.hid (And.intro hcf H); clear H
    have HF := Lib.hid (And.intro h2 h3); clear h2 h3 h1
    obtain ⟨r, hr⟩ : ∃ r, r = l.filter fun x => !f x := ⟨_, rfl⟩
    rw [← hr]
    have R := Lib.hid hr; clear hr
    go_enter Try.func75, Try.ntmps75
    go_wp2_with fail
    refine HI.out.1.mono ?_
    rintro e w1 ⟨rfl, hb1⟩
    have D1 := Lib.hid (DelS.start (HI.out.2.below hb1) hi0)
    have B1 := Lib.hid (hb1.mono hbase); clear hb1
    go_wp2_with fail
    go_loopg [5, 6] (l.length - (i0 + 1)) (fun gk si sj wr => ∃ (i j : Nat) (kept : List (List GStep)), si = .int .i64 i ∧ sj = .int .i64 j ∧ i < j ∧ j ≤ l.length ∧ gk = l.length - j ∧ Hid (kept = (l.take j).filter fun x => !f x) ∧ kept.length = i ∧
      DelS base 79 g l.length c kept (l.drop j) (j - i) wr ∧ Below base w wr)
    case atStart =>
      refine ⟨i0, i0 + 1, l.take i0, rfl, by go_num, by omega, by omega, by omega, ?_, by rw [List.length_take]; omega, ?_, B1.out⟩
      · show l.take i0 = _
        rw [List.take_succ_eq_append_getElem hi0, List.filter_append, HF.out.1]
        simp [HF.out.2]
      · rw [show i0 + 1 - i0 = 1 by omega]; exact D1.out
    case round =>
      obtain ⟨i, j, kept, rfl, rfl, hij, hjl, rfl, hK, hkl, hD, hbel⟩ := hrel
      subst hkl
      have hzb : base ≤ wr.heap.size := by have := hbel.size; omega
      by_cases hlt : j < l.length
      · have hdr : l.drop j = l[j] :: l.drop (j + 1) := List.drop_eq_getElem_cons hlt
        rw [hdr] at hD
        obtain ⟨A1, c1, k0, hsa⟩ := hD.head
        rw [show kept.length + (j - kept.length) = j by omega] at k0
        have hgl := hD.lt
        have HD := Lib.hid (And.intro hD hsa); clear hD hsa
        cases hB : f l[j]
        all_goals
          have HB := Lib.hid hB; clear hB
          go_wp2_with fail
          refine (HH.out.2 l[j] (List.getElem_mem hlt) A1 c1 _ (hbel.trans ((bAl (bRf wr) _).mono hzb)) (HD.out.2.below (bAl (bRf wr) _))).mono ?_
          rintro e w2 ⟨rfl, hb2⟩
          have HB2 := Lib.hid (show Below wr.heap.size wr w2 from bTr (bAl (bRf wr) (.cells #[.slice A1 l[j].length c1] 79)) hb2)
          have Y := (Blk.new wr 79 #[.slice A1 l[j].length c1]).below hb2
          have y0 := Y.c1
          have D2 := Lib.hid (HD.out.1.below HB2.out)
          obtain ⟨⟨u0, g0⟩, f0⟩ := D2.out.cell (j := kept.length) (by omega)
          have j0 := (HB2.out.cell (p := ⟨g, j, none⟩) hgl.2).trans k0
          have hz2 : wr.heap.size < w2.heap.size := Y.lt
          clear hb2 Y
          rw [HB.out]
          go_wp2_with fail
        · go_roundg (l.length - (j + 1))
          case measure => omega
          case rel =>
            obtain ⟨m, hm⟩ : ∃ m, j - kept.length = m + 1 := ⟨j - kept.length - 1, by omega⟩
            have hd := D2.out
            rw [hm] at hd
            have ht := hd.take (by rw [show kept.length + (m + 1) = j by omega]; exact j0)
            refine ⟨kept.length + 1, j + 1, kept ++ [l[j]], by go_num, by go_num, by omega, by omega, rfl, ?_, by simp, ?_, ?_⟩
            · show kept ++ [l[j]] = _
              rw [List.take_succ_eq_append_getElem hlt, List.filter_append, ← hK.out]
              simp [HB.out]
            · rw [show j + 1 - (kept.length + 1) = m + 1 by omega]; exact ht
            · exact (hbel.trans (HB2.out.mono hzb)).setCell hgl.1 _
        · go_roundg (l.length - (j + 1))
          case measure => omega
          case rel =>
            refine ⟨kept.length, j + 1, kept, rfl, by go_num, by omega, by omega, rfl, ?_, rfl, ?_, hbel.trans (HB2.out.mono hzb)⟩
            · show kept = _
              rw [List.take_succ_eq_append_getElem hlt, List.filter_append, ← hK.out]
              simp [HB.out]
            · rw [show j + 1 - kept.length = (j - kept.length) + 1 by omega]; exact D2.out.skip
      · have e : j = l.length := by omega
        subst e
        rw [List.drop_length] at hD
        have hkr : kept = r := by rw [hK.out, R.out, List.take_length]
        subst hkr
        have hcl : ∀ ty, (Builtin.clear_ #[54] ty #[.slice (some ⟨g, 0 + kept.length, none⟩) (l.length - kept.length) (c - kept.length)]).run Try.prog wr = .ok (.tuple #[]) (wr.setCells g (0 + kept.length) (List.replicate (l.length - kept.length) (.slice none 0 0))) := fun ty =>
          run_clear_cells wr 54 79 ty (.agg #[.slice none 0 0]) (.slice none 0 0) Try.underlying54 zeroPath rfl rfl g (0 + kept.length) _ _ (by omega)
            (fun j hj => by obtain ⟨⟨u, hu⟩, _⟩ := hD.cell (j := 0 + kept.length + j) (by omega); rw [hu]; rfl) (fun j hj => (hD.cell (j := 0 + kept.length + j) (by omega)).2)
        simp only [Nat.zero_add] at hcl
        have HE := Lib.hid (And.intro hD hbel); clear hD hbel
        have hi1 : (kept.length : Int) ≤ l.length := by omega
        have hi2 : (kept.length : Int) ≤ c := by omega
        go_wp2_with fail
        go_ret
        refine ⟨_, c, rfl, ?_, ?_⟩
        · rw [setCells_stores]; exact HE.out.1.clear _
        · rw [setCells_stores]; exact bStores HE.out.2 HE.out.1.lt.1 hzb _ _
end Go.Proofs.Ytblcmajhdndmfaa
