/- Contracts: Fewer, in the program. -/
import Derived.Test.YtblcmajhdndmfaaFewer
import Derived.Test.YtblcmajhdndmfaaFind4
import Derived.Test.YtblcmajhdndmfaaDel
import Derived.Test.YtblcmajhdndmfaaPlace
import Derived.Test.YtblcmajhdndmfaaOwnS
import Derived.StillTailTactics
namespace Go.Proofs.Ytblcmajhdndmfaa
open Go.RowKit
set_option linter.unusedVariables false
set_option maxRecDepth 100000

theorem zeroLoss (w : World) : (zeroValue 88).run Try.prog w = .ok (.agg #[.int .i64 0, .slice none 0 0]) w := Try.zeroValue88 w

theorem deleteLoss_any (l : List GLoss) (j : Nat) (g c base : Nat) (w : World) (hn : l.length ≤ 1048576) (hj : j < l.length) {F : List Nat} (hC : OwnC w base 88 (.slice (some ⟨g, 0, none⟩) l.length c) l F) (hFr : Fresh base w F) (hbase : base ≤ w.heap.size) :
    Calls Try.prog 73 #[.slice (some ⟨g, 0, none⟩) l.length c, .int .i64 j, .int .i64 (j + 1)] w fun e w' => e = .returned (.slice (some ⟨g, 0, none⟩) (l.length - 1) c) ∧ (∃ F', SlR w' F' (l.eraseIdx j) (some ⟨g, 0, none⟩) c ∧ Fresh base w' F' ∧ ∀ b, b ∈ F' → b = g ∨ b ∈ F) ∧ Below base w w' ∧ ∀ b, b < w.heap.size → b ≠ g → w'.heap[b]? = w.heap[b]? := by
  have hown : OwnF w base 88 (.slice (some ⟨g, 0, none⟩) l.length c) l := ⟨F, hC, hFr⟩
  have hsl := hown.sf.2.sa.len
  have hc1 : l.length ≤ c := hsl.1
  have hc2 : c ≤ 9223372036854775807 := by have := hsl.2; unfold maxLen at this; exact this
  have hgl := hown.own_lt g rfl
  have hgw := hgl.2
  have hcut := OwnF.cut1 (P := Try.prog) 28 28 88 (.agg #[.int .i64 0, .slice none 0 0]) 32 Try.underlying28 infoLoss (hC.below (fun b hb => (hFr.2 b hb).2.lt) (bRf w).drew) (hFr.below (bRf w).drew) hj
  obtain ⟨n, hln⟩ : ∃ n, l.length = n + 1 := ⟨l.length - 1, by omega⟩
  obtain ⟨w1, hrun, hg1, hroom, hown1⟩ := hcut
  have hlen : (l.eraseIdx j).length = n := by rw [List.length_eraseIdx, if_pos hj]; omega
  rw [hln] at hrun hown1 hn hj hc1 ⊢
  rw [Nat.add_sub_cancel] at hrun hown1 ⊢
  have hcl : ∀ ty, (Builtin.clear_ #[28] ty #[.slice (some ⟨g, n * 2, none⟩) 1 (c - n)]).run Try.prog w1 = .ok (.tuple #[]) (w1.setCells g (n * 2) [.int .i64 0, .slice none 0 0]) := fun ty =>
    run_clear_one w1 28 88 ty (.agg #[.int .i64 0, .slice none 0 0]) [.int .i64 0, .slice none 0 0] Try.underlying28 zeroLoss rfl (by simp [Value.oneCell']) g (n * 2) (c - n)
      (fun k hk => by obtain ⟨⟨u, hu⟩, _⟩ := hroom (n * 2 + k) (by simp [Rep.wd] at hk ⊢; omega); rw [hu]; rfl) (fun k hk => (hroom (n * 2 + k) (by simp [Rep.wd] at hk ⊢; omega)).2)
  have ho2 : ∃ F', SlR (w1.setCells g (n * 2) [.int .i64 0, .slice none 0 0]) F' (l.eraseIdx j) (some ⟨g, 0, none⟩) c ∧ Fresh base (w1.setCells g (n * 2) [.int .i64 0, .slice none 0 0]) F' ∧ ∀ b, b ∈ F' → b = g ∨ b ∈ F := by
    obtain ⟨F', h1, h2, h3⟩ := hown1 [.int .i64 0, .slice none 0 0]
    obtain ⟨_, F'', h4, h5⟩ := h1.slr
    refine ⟨F'', h4, ?_⟩
    rcases h5 with rfl | ⟨g', hg', rfl, h6, h7, h8⟩
    · exact ⟨Fresh.nil _ _, by simp⟩
    · injection hg' with hg'; injection hg' with hg'
      subst hg'
      refine ⟨⟨List.nodup_cons.2 ⟨h8, h2.1⟩, fun b hb => ?_⟩, fun b hb => ?_⟩
      · rcases List.mem_cons.1 hb with rfl | hb
        · exact ⟨h6, h7⟩
        · exact h2.2 b hb
      · rcases List.mem_cons.1 hb with rfl | hb
        · exact .inl rfl
        · exact .inr (h3 b hb)
  have hb2 : Below base w.drew (w1.setCells g (n * 2) [.int .i64 0, .slice none 0 0]) := ((Below.refl base _).grown hg1 hbase (fun k hk => by injection hk with hk; omega)).grown (setCells_grown g _ w1 _) (Nat.le_trans hbase hg1.size) (fun k hk => by injection hk with hk; omega)
  have hb3 : Below base w (w1.setCells g (n * 2) [.int .i64 0, .slice none 0 0]) := ((Below.refl base w).drew).trans hb2
  have hfar : ∀ b, b < w.heap.size → b ≠ g → (w1.setCells g (n * 2) [.int .i64 0, .slice none 0 0]).heap[b]? = w.heap[b]? := fun b hb hne => (setCells_other g _ w1 _ b hne).trans (hg1.block b hb (fun e => hne (by injection e)))
  have HO := Lib.hid (And.intro ho2 (And.intro hb3 (And.intro hfar hlen))); clear hfar hown hC hFr hsl hgl hg1 hroom hown1 hlen ho2 hb2 hb3
  have HR := Lib.hid hrun; clear hrun
  have HL := Lib.hid hln; clear hln
  have h1 : (0 : Int) ≤ j := by omega
  have h2 : (j : Int) ≤ (j : Int) + 1 := by omega
  have h3 : (j : Int) + 1 ≤ (n : Int) + 1 := by omega
  have h4 : (n : Int) + 1 ≤ c := by omega
  have h5 : ¬ (n + 1 = j) := by omega
  have h6 : ((j : Int) + 1).toNat = j + 1 := by omega
  have h7 : (j : Int) ≤ c := by omega
  have h8 : (j : Int) + 1 ≤ c := by omega
  have h9 : ¬ (c = 0) := by omega
  have h10 : (0 : Int) ≤ (j : Int) + 1 := by omega
  have h11 : ((j : Int) == (j : Int) + 1) = false := by rw [beq_eq_false_iff_ne]; omega
  have h12 : (0 : Int) ≤ n := by omega
  have h13 : (n : Int) ≤ (n : Int) + 1 := by omega
  have h14 : ¬ (c = n) := by omega
  have h15 : ((n : Int) + 1).toNat = n + 1 := by omega
  have h16 : (n : Int) ≤ c := by omega
  go_enter Try.func73, Try.ntmps73
  go_wp2_with fail
  go_still_tail 6, (by kernel_rfl)
  change wpList _ _ _ _ _ w.drew
  refine app_list rfl (.tmp 22) (.tmp 25) 28 rfl (v := .slice (some ⟨g, 0, none⟩) j c) (u := .slice (if c = j + 1 then some ⟨g, 0, none⟩ else some ⟨g, (j + 1) * 2, none⟩) (n + 1 - (j + 1)) (c - (j + 1))) rfl ?hx (R := fun v' w' => v' = .slice (some ⟨g, 0, none⟩) n c ∧ w' = w1) ⟨_, _, HR.out, rfl, rfl⟩ ?_
  case hx => first | rfl | (simp [Act.eval]; done) | trace_state
  rintro v' w' ⟨rfl, rfl⟩
  go_wp2_with fail
  all_goals
    go_ret
    first
    | exact ⟨rfl, HO.out.1, HO.out.2.1, HO.out.2.2.1⟩
    | (have hcj : c = j + 1 := by assumption
       subst hcj
       exact ⟨rfl, HO.out.1, HO.out.2.1, HO.out.2.2.1⟩)

set_option maxHeartbeats 1000000 in
theorem implFewer_any (o : GOut) (i : Int) (A A' : Option Addr) (c c' : Nat) (w : World) (hn : bulkOut o ≤ 1048576) (hI : I64 i) (h1 : SA w o.b A c) (h2 : SA w o.l A' c') :
    Calls Try.prog 32 #[.agg #[.slice A o.b.length c, .slice A' o.l.length c', .int .i64 o.code], .int .i64 i] w (RetO w (fewerO o i)) := by
  have hll : o.l.length ≤ 1048576 := by unfold bulkOut bulkLossS at hn; omega
  have hi1 := hI.1; have hi2 := hI.2
  clear hI
  have b0 := bAl (bAl (bRf w) (.cells #[.slice A o.b.length c, .slice A' o.l.length c', .int .i64 o.code] 30)) (.cells #[.slice none 0 0, .slice none 0 0, .int .i64 0] 30)
  have E := Lib.hid (And.intro (h1.below b0) (h2.below b0)); clear h1 h2
  have P0 := Lib.hid ((Blk.new w 30 #[.slice A o.b.length c, .slice A' o.l.length c', .int .i64 o.code]).alloc (.cells #[.slice none 0 0, .slice none 0 0, .int .i64 0] 30))
  have P1 := Lib.hid (Blk.at (w := w.alloc (.cells #[.slice A o.b.length c, .slice A' o.l.length c', .int .i64 o.code] 30)) (g := w.heap.size + 1) (t := 30) (cs := #[.slice none 0 0, .slice none 0 0, .int .i64 0]) (by simp))
  have B0 := Lib.hid b0; clear b0
  obtain ⟨r, hr⟩ : ∃ r, r = fewerO o i := ⟨_, rfl⟩
  rw [← hr]
  go_enter Try.func32, Try.ntmps32
  go_wp2_with fail
  refine (copyOutF_any o A A' c c' _ hn E.out.1 E.out.2).mono ?_
  rintro e w1 ⟨A1, c1, A2, c2, m, rfl, hm, hm1, ⟨F1, hs1, hf1, hF1⟩, ho2, hb1⟩
  have hmw : w.heap.size + 1 + 1 ≤ m := by simp at hm; omega
  have HB1 := Lib.hid (bTr B0.out hb1)
  have Q0 := Lib.hid (P0.out.below hb1)
  have Q1 := Lib.hid (P1.out.below hb1)
  have HS := Lib.hid (And.intro hs1 (And.intro hf1 hF1)); clear hs1 hf1 hF1
  have HO := Lib.hid ho2; clear ho2 hb1 hm
  obtain ⟨p0, p1, p2⟩ := Q0.out.c3
  have q1lt := Q1.out.lt
  have q0lt := Q0.out.lt
  go_wp2_with fail
  have PX := Lib.hid (Blk.new w1 30 #[.slice A1 o.b.length c1, .slice A2 o.l.length c2, .int .i64 o.code])
  refine (within_any _ _ _ _).mono ?_
  rintro e w2 ⟨rfl, hb2⟩
  have HB2 := Lib.hid (show Below w1.heap.size w1 w2 from bTr (bAl (bRf w1) _) hb2)
  have QX := Lib.hid (PX.out.below hb2); clear hb2 p0 p1 p2
  have hz2 : w1.heap.size < w2.heap.size := QX.out.lt
  have Q2 := Lib.hid (Q1.out.below HB2.out)
  obtain ⟨x0, x1, x2⟩ := QX.out.c3
  obtain ⟨q0, q1, q2⟩ := Q2.out.c3
  have gq0 := Q2.out.frozen 0
  have gq1 := Q2.out.frozen 1
  have gq2 := Q2.out.frozen 2
  have gx1 := QX.out.frozen 1
  have hne1 : ¬ (w.heap.size + 1 = w1.heap.size) := by omega
  have hne2 : ¬ (w1.heap.size = w.heap.size + 1) := by omega
  have hzq : w.heap.size + 1 < w2.heap.size := by omega
  have HO2 := Lib.hid (HO.out.below HB2.out)
  have HFin := Lib.hid (show ∀ (W : World) (l' : List GLoss) (A4 : Option Addr) (c4 : Nat), r = { o with l := l' } → (∃ F2, SlR W F2 l' A4 c4 ∧ Fresh m W F2) → Below w.heap.size w W → (∀ b, b < m → b ≠ w.heap.size + 1 → W.heap[b]? = w1.heap[b]?) → RetO w r (.returned (.agg #[.slice A1 o.b.length c1, .slice A4 l'.length c4, .int .i64 o.code])) W from fun W l' A4 c4 hr hs hb hk => by
    obtain ⟨F2, h3, h4⟩ := hs
    have hkF : ∀ b, b ∈ F1 → W.heap[b]? = w1.heap[b]? := fun b hb => hk b (HS.out.2.2 b hb) (by have := (HS.out.2.1.2 b hb).1; simp at this; omega)
    refine ⟨A1, c1, A4, c4, by rw [hr], ⟨F1, F2, by rw [hr]; exact HS.out.1.keep hkF, by rw [hr]; exact h3, ?_, fun b hb => ?_⟩, hb⟩
    · rw [List.nodup_append]
      exact ⟨HS.out.2.1.1, h4.1, fun x hx y hy e => by have := HS.out.2.2 x hx; have := (h4.2 y hy).1; omega⟩
    · rcases List.mem_append.1 hb with hb | hb
      · exact ⟨by have := (HS.out.2.1.2 b hb).1; simp at this; omega, (HS.out.2.1.2 b hb).2.keep (hkF b hb)⟩
      · exact ⟨by have := (h4.2 b hb).1; omega, (h4.2 b hb).2⟩)
  by_cases hin : 0 ≤ i ∧ i ≤ (o.l.length : Int) - 1
  · obtain ⟨j, rfl⟩ : ∃ j : Nat, i = j := ⟨i.toNat, by omega⟩
    have hj : j < o.l.length := by omega
    obtain ⟨g, rfl⟩ := HO2.out.block (by omega)
    have hgl := HO2.out.own_lt g rfl
    have hg1 : g < w1.heap.size := (HO.out.own_lt g rfl).2
    have hd : decide (0 ≤ (j : Int) ∧ (j : Int) ≤ (o.l.length : Int) - 1) = true := decide_eq_true hin
    rw [hd]
    have R := Lib.hid hr; clear hr hd
    go_wp2_with fail
    obtain ⟨F0, hC0, hFr0⟩ := HO.out
    have hF0 : ∀ b, b ∈ F0 → b < w1.heap.size := fun b hb => (hFr0.2 b hb).2.lt
    refine (deleteLoss_any o.l j g c2 m w2 hll hj (hC0.below hF0 HB2.out) (hFr0.below HB2.out) (by omega)).mono ?_
    rintro e w3 ⟨rfl, hs3, hb3, hf3⟩
    have HS3 := Lib.hid (And.intro hs3 (And.intro hb3 hf3))
    have QX3 := Lib.hid (show Blk w3 _ _ _ from (hf3 w1.heap.size hz2 (by omega)).trans QX.out)
    have Q3 := Lib.hid (show Blk w3 _ _ _ from (hf3 (w.heap.size + 1) hzq (by omega)).trans Q2.out)
    have hz3 : w2.heap.size ≤ w3.heap.size := hb3.size
    clear hs3 hb3 hf3 x0 x1 x2 q0 q1 q2 gq0 gq1 gq2 gx1
    obtain ⟨x0, x1, x2⟩ := QX3.out.c3
    obtain ⟨q0, q1, q2⟩ := Q3.out.c3
    have gq0 := Q3.out.frozen 0
    have gq1 := Q3.out.frozen 1
    have gq2 := Q3.out.frozen 2
    have gx1 := QX3.out.frozen 1
    have hlen : (o.l.eraseIdx j).length = o.l.length - 1 := by rw [List.length_eraseIdx, if_pos hj]
    have HLn := Lib.hid hlen; clear hlen
    go_wp2_with fail
    refine bodyPost_ret (v := .agg #[.slice A1 o.b.length c1, .slice (some ⟨g, 0, none⟩) (o.l.length - 1) c2, .int .i64 o.code]) (by simp [results, Try.results32, go_sem, *]) rfl ?_
    rw [← HLn.out]
    have hkW : ∀ b, b ≠ w1.heap.size → b ≠ w.heap.size + 1 → ((((w3.setCell ⟨w1.heap.size, 1, none⟩ (.slice (some ⟨g, 0, none⟩) (o.l.eraseIdx j).length c2)).setCell ⟨w.heap.size + 1, 0, none⟩ (.slice A1 o.b.length c1)).setCell ⟨w.heap.size + 1, 1, none⟩ (.slice (some ⟨g, 0, none⟩) (o.l.eraseIdx j).length c2)).setCell ⟨w.heap.size + 1, 2, none⟩ (.int .i64 o.code)).heap[b]? = w3.heap[b]? := fun b h h' => by
      rw [Below.heap_setCell _ _ _ _ h', Below.heap_setCell _ _ _ _ h', Below.heap_setCell _ _ _ _ h', Below.heap_setCell _ _ _ _ h]
    refine HFin.out _ (o.l.eraseIdx j) _ _ (by rw [R.out]; exact if_pos hin) ?_ ?_ ?_
    · obtain ⟨F2, h3, h4, h5⟩ := HS3.out.1
      have hne : ∀ b, b ∈ F2 → b ≠ w1.heap.size ∧ b ≠ w.heap.size + 1 := fun b hb => by
        have := (h4.2 b hb).1
        rcases h5 b hb with rfl | h
        · omega
        · have := hF0 b h; omega
      exact ⟨F2, h3.keep fun b hb => hkW b (hne b hb).1 (hne b hb).2, h4.keep fun b hb => hkW b (hne b hb).1 (hne b hb).2⟩
    · refine Below.setCell (Below.setCell (Below.setCell (Below.setCell ((HB1.out.trans (HB2.out.mono (by omega))).trans (HS3.out.2.1.mono (by omega))) ?_ _) ?_ _) ?_ _) ?_ _
      all_goals (simp; try omega)
    · intro b hb hne
      rw [hkW b (by omega) hne, HS3.out.2.2 b (by omega) (by omega)]
      exact HB2.out.block b (by omega)
  · have hd : decide (0 ≤ i ∧ i ≤ (o.l.length : Int) - 1) = false := decide_eq_false hin
    rw [hd]
    have R := Lib.hid (show r = { o with l := o.l } by rw [hr]; exact if_neg hin); clear hr hd
    go_wp2_with fail
    refine bodyPost_ret (v := .agg #[.slice A1 o.b.length c1, .slice A2 o.l.length c2, .int .i64 o.code]) (by simp [results, Try.results32, go_sem, *]) rfl ?_
    have hkW : ∀ b, b ≠ w.heap.size + 1 → (((w2.setCell ⟨w.heap.size + 1, 0, none⟩ (.slice A1 o.b.length c1)).setCell ⟨w.heap.size + 1, 1, none⟩ (.slice A2 o.l.length c2)).setCell ⟨w.heap.size + 1, 2, none⟩ (.int .i64 o.code)).heap[b]? = w2.heap[b]? := fun b h' => by
      rw [Below.heap_setCell _ _ _ _ h', Below.heap_setCell _ _ _ _ h', Below.heap_setCell _ _ _ _ h']
    refine HFin.out _ o.l _ _ R.out ?_ ?_ ?_
    · obtain ⟨F2, h3, h4⟩ := HO2.out.sf.2
      have hne : ∀ b, b ∈ F2 → b ≠ w.heap.size + 1 := fun b hb => by have := (h4.2 b hb).1; omega
      exact ⟨F2, h3.keep fun b hb => hkW b (hne b hb), h4.keep fun b hb => hkW b (hne b hb)⟩
    · refine Below.setCell (Below.setCell (Below.setCell (HB1.out.trans (HB2.out.mono (by omega))) ?_ _) ?_ _) ?_ _
      all_goals (simp; try omega)
    · intro b hb hne
      rw [hkW b hne]
      exact HB2.out.block b (by omega)
end Go.Proofs.Ytblcmajhdndmfaa
