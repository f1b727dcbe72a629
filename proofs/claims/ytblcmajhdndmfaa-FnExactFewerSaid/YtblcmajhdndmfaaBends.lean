/- Contracts: Bends, in the program. -/
import Derived.Test.YtblcmajhdndmfaaCopyO
import Derived.Test.YtblcmajhdndmfaaMark
namespace Go.Proofs.Ytblcmajhdndmfaa
open Go.RowKit
set_option linter.unusedVariables false
set_option maxRecDepth 100000

/-- An out in new memory. -/
def RetO (w : World) (o : GOut) (e : Ending) (w' : World) : Prop := ∃ A1 c1 A2 c2, e = .returned (.agg #[.slice A1 o.b.length c1, .slice A2 o.l.length c2, .int .i64 o.code]) ∧ (∃ F1 F2, SlR w' F1 o.b A1 c1 ∧ SlR w' F2 o.l A2 c2 ∧ Fresh w.heap.size w' (F1 ++ F2)) ∧ Below w.heap.size w w'

set_option maxHeartbeats 1000000 in
theorem copyOut_any (o : GOut) (A A' : Option Addr) (c c' : Nat) (w : World) (hn : bulkOut o ≤ 1048576) (h1 : SA w o.b A c) (h2 : SA w o.l A' c') :
    Calls Try.prog 67 #[.agg #[.slice A o.b.length c, .slice A' o.l.length c', .int .i64 o.code]] w (RetO w o) := by
  have hn1 : o.b.length ≤ 4194304 := by unfold bulkOut at hn; omega
  have hn2 : bulkLossS o.l ≤ 1048576 := by unfold bulkOut at hn; omega
  have b0 := bAl (bAl (bRf w) (.cells #[.slice A o.b.length c, .slice A' o.l.length c', .int .i64 o.code] 30)) (.cells #[.slice none 0 0, .slice none 0 0, .int .i64 0] 30)
  have E := Lib.hid (And.intro (h1.below b0) (h2.below b0)); clear h1 h2 hn
  have P0 := Lib.hid ((Blk.new w 30 #[.slice A o.b.length c, .slice A' o.l.length c', .int .i64 o.code]).alloc (.cells #[.slice none 0 0, .slice none 0 0, .int .i64 0] 30))
  have P1 := Lib.hid (Blk.at (w := w.alloc (.cells #[.slice A o.b.length c, .slice A' o.l.length c', .int .i64 o.code] 30)) (g := w.heap.size + 1) (t := 30) (cs := #[.slice none 0 0, .slice none 0 0, .int .i64 0]) (by simp))
  have B0 := Lib.hid b0; clear b0
  go_enter Try.func67, Try.ntmps67
  go_wp2_with fail
  go_region_held3 (fun u => u.cell? ⟨w.heap.size, 0, none⟩ = some (.slice A o.b.length c) ∧ u.cell? ⟨w.heap.size, 1, none⟩ = some (.slice A' o.l.length c') ∧ u.cell? ⟨w.heap.size, 2, none⟩ = some (.int .i64 o.code)) (go_keep)
    (first
      | (go_at_call 100; (refine (cloneByte_any o.b A c _ hn1 E.out.1.drew).mono ?_; rintro e w1 ⟨A1, c1, rfl, hs1, hb1⟩; have HB1 := Lib.hid hb1; have HP1 := Lib.hid (P0.out.drew.below hb1); have HQ1 := Lib.hid (P1.out.drew.below hb1); have HS1 := Lib.hid hs1; obtain ⟨x0, x1, x2⟩ := HP1.out.c3; clear hs1 hb1))
      | (go_at_call 101; (refine (copyLosses_any o.l A' c' _ hn2 (E.out.2.drew.below HB1.out)).mono ?_; rintro e w2 ⟨A2, c2, rfl, hs2, hb2⟩; have HB2 := Lib.hid hb2; have HP2 := Lib.hid (HP1.out.below hb2); have HQ2 := Lib.hid (HQ1.out.below hb2); have HS2 := Lib.hid hs2; obtain ⟨x0, x1, x2⟩ := HP2.out.c3; obtain ⟨y0, y1, y2⟩ := HQ2.out.c3; have f0 := HQ2.out.frozen 0; have f1 := HQ2.out.frozen 1; have f2 := HQ2.out.frozen 2; have hz := HQ2.out.lt; clear hs2 hb2)))
  go_wp2_with fail
  refine bodyPost_ret (v := .agg #[.slice A1 o.b.length c1, .slice A2 o.l.length c2, .int .i64 o.code]) (by simp [results, Try.results67, go_sem, *]) rfl ?_
  refine ⟨A1, c1, A2, c2, rfl, ?_, ?_⟩
  · obtain ⟨F1, F2, h3, h4, h5⟩ := SF.pair (base := w.heap.size + 1 + 1) HS1.out HB2.out HS2.out (by simp) (by have := HB1.out.size; simp at this; omega)
    have hk : ∀ b, b ∈ F1 ++ F2 → (((w2.setCell ⟨w.heap.size + 1, 0, none⟩ (.slice A1 o.b.length c1)).setCell ⟨w.heap.size + 1, 1, none⟩ (.slice A2 o.l.length c2)).setCell ⟨w.heap.size + 1, 2, none⟩ (.int .i64 o.code)).heap[b]? = w2.heap[b]? := fun b hb => by
      have := (h5.2 b hb).1
      rw [Below.heap_setCell _ _ _ _ (by simp; omega), Below.heap_setCell _ _ _ _ (by simp; omega), Below.heap_setCell _ _ _ _ (by simp; omega)]
    exact ⟨F1, F2, h3.keep fun b hb => hk b (by simp [hb]), h4.keep fun b hb => hk b (by simp [hb]), (h5.keep hk).mono (by omega)⟩
  · refine Below.setCell (Below.setCell (Below.setCell (bTr (bTr B0.out.drew HB1.out) HB2.out) ?_ _) ?_ _) ?_ _
    all_goals (simp; try omega)

/-- An out with one byte bent. -/
def bendsO (o : GOut) (i n : Int) : GOut := if 0 ≤ i ∧ i ≤ (o.b.length : Int) - 1 then { o with b := o.b.set i.toNat (byteOf (((o.b[i.toNat]?.getD 0).toNat : Int) + n)) } else o
theorem bendsO_out {o : GOut} {i n : Int} (h : ¬ (0 ≤ i ∧ i ≤ (o.b.length : Int) - 1)) : bendsO o i n = o := if_neg h
theorem bendsO_in {o : GOut} {j : Nat} {n : Int} (h : j < o.b.length) : bendsO o j n = ⟨o.b.set j (byteOf (((o.b[j]).toNat : Int) + n)), o.l, o.code⟩ := by
  unfold bendsO
  rw [if_pos ⟨by omega, by omega⟩]
  simp [h]

theorem elemsPlain {α : Type} [Rep α] (hP : ∀ w F (a : α) cs, Rep.rp w F a cs → F = []) {w : World} : ∀ {l : List α} {F : List Nat} {xs : List Value}, Elems w l F xs → F = []
  | [], _, _, h => h.1
  | _ :: _, _, _, ⟨F1, F2, cs, ys, hF, hx, h1, h2⟩ => by rw [hF, hP _ _ _ _ h1, elemsPlain hP h2]; rfl
theorem SlR.store1 {α : Type} [Rep α] (hk : Rep.wd α = 1) {base g off c j : Nat} {w : World} {F : List Nat} {l : List α} {a : α} {u : Value} (h : SlR w (g :: F) l (some ⟨g, off, none⟩) c) (hF : Fresh base w (g :: F)) (hj : j < l.length) (hP : ∀ w F (a : α) cs, Rep.rp w F a cs → F = [])
    (hr : ∀ w, Rep.rp w [] a [u]) : SlR (w.setCell ⟨g, off + j, none⟩ u) (g :: F) (l.set j a) (some ⟨g, off, none⟩) c ∧ Fresh base (w.setCell ⟨g, off + j, none⟩ u) (g :: F) := by
  obtain ⟨h1, h2, h3⟩ := h
  rcases h3 with ⟨rfl, _⟩ | ⟨b, o, F', xs, hA, hF', he, hc⟩
  · simp at hj
  injection hA with hA; injection hA with e1 e2
  subst e1 e2
  injection hF' with _ e3
  subst e3
  have e4 := elemsPlain hP he
  subst e4
  have hlen := he.len
  obtain ⟨G1, G2, G3, hG, he'⟩ := Elems.set (hr w) he j hj
  have hG1 : G1 = [] ∧ G3 = [] := by simp at hG; exact ⟨hG.1, hG.2.2⟩
  obtain ⟨rfl, rfl⟩ := hG1
  simp only [hk, Nat.mul_one, List.length_cons, List.length_nil, Nat.zero_add, List.append_nil] at he' hlen
  refine ⟨⟨by simpa using h1, h2, .inr ⟨g, off, [], _, rfl, rfl, he'.keep (by simp), fun i v hi => ?_⟩⟩, hF.1, fun b hb => ?_⟩
  · by_cases hij : i = j
    · subst hij
      have hx := hc i xs[i] (List.getElem?_eq_getElem (by omega))
      rw [cell_set_eq _ _ _ _ _ hx]
      rw [List.getElem?_append_right (by simp; omega)] at hi
      simp [Nat.min_eq_left (show i ≤ xs.length by omega)] at hi
      rw [hi]
    · rw [cell_set_ne _ _ _ _ _ (by omega)]
      refine hc i v ?_
      by_cases hlt : i < j
      · rw [List.getElem?_append_left (by simp; omega), List.getElem?_take_of_lt hlt] at hi; exact hi
      · rw [List.getElem?_append_right (by simp; omega), List.getElem?_append_right (by simp; omega), List.getElem?_drop] at hi
        rw [← hi]; congr 1; simp; omega
  · exact ⟨(hF.2 b hb).1, (hF.2 b hb).2.set _ _⟩

theorem wrap8 (x n : Int) : ((byteOf (x + n)).toNat : Int) = (x + n) % 256 := byteOf_val _

set_option maxHeartbeats 1000000 in
theorem implBends_any (o : GOut) (i n : Int) (A A' : Option Addr) (c c' : Nat) (w : World) (hn : bulkOut o ≤ 1048576) (hI : I64 i) (hN : I64 n) (h1 : SA w o.b A c) (h2 : SA w o.l A' c') :
    Calls Try.prog 28 #[.agg #[.slice A o.b.length c, .slice A' o.l.length c', .int .i64 o.code], .int .i64 i, .int .i64 n] w (RetO w (bendsO o i n)) := by
  have hbl : o.b.length ≤ 1048576 := by unfold bulkOut at hn; omega
  have hi1 := hI.1; have hi2 := hI.2; have hn1 := hN.1; have hn2 := hN.2
  clear hI hN
  have b0 := bAl (bAl (bRf w) (.cells #[.slice A o.b.length c, .slice A' o.l.length c', .int .i64 o.code] 30)) (.cells #[.slice none 0 0, .slice none 0 0, .int .i64 0] 30)
  have E := Lib.hid (And.intro (h1.below b0) (h2.below b0)); clear h1 h2
  have P0 := Lib.hid ((Blk.new w 30 #[.slice A o.b.length c, .slice A' o.l.length c', .int .i64 o.code]).alloc (.cells #[.slice none 0 0, .slice none 0 0, .int .i64 0] 30))
  have P1 := Lib.hid (Blk.at (w := w.alloc (.cells #[.slice A o.b.length c, .slice A' o.l.length c', .int .i64 o.code] 30)) (g := w.heap.size + 1) (t := 30) (cs := #[.slice none 0 0, .slice none 0 0, .int .i64 0]) (by simp))
  have B0 := Lib.hid b0; clear b0
  obtain ⟨r, hr⟩ : ∃ r, r = bendsO o i n := ⟨_, rfl⟩
  rw [← hr]
  go_enter Try.func28, Try.ntmps28
  go_wp2_with fail
  refine (copyOut_any o A A' c c' _ hn E.out.1 E.out.2).mono ?_
  rintro e w1 ⟨A1, c1, A2, c2, rfl, ⟨F1, F2, hs1, hs2, hf⟩, hb1⟩
  have HS := Lib.hid (And.intro hs1 (And.intro hs2 hf))
  have HB1 := Lib.hid (bTr B0.out hb1)
  have Q0 := P0.out.below hb1
  have Q1 := Lib.hid (P1.out.below hb1)
  have hz1 : w.heap.size + 1 < w1.heap.size := Q1.out.lt
  have hz0 : w.heap.size < w1.heap.size := Q0.lt
  have hbase : ∀ b, b ∈ F1 ++ F2 → w.heap.size + 1 + 1 ≤ b ∧ b < w1.heap.size := fun b hb => ⟨by have := (hf.2 b hb).1; simp at this; omega, (hf.2 b hb).2.lt⟩
  have HBA := Lib.hid hbase; clear hbase
  obtain ⟨p0, p1, p2⟩ := Q0.c3
  obtain ⟨y0, y1, y2⟩ := Q1.out.c3
  have f0 := Q1.out.frozen 0
  have f1 := Q1.out.frozen 1
  have f2 := Q1.out.frozen 2
  have hlen1 := hs1.2.1; have hlen0 := hs1.1
  clear hs1 hs2 hf hb1 Q0
  by_cases hin : 0 ≤ i ∧ i ≤ (o.b.length : Int) - 1
  · obtain ⟨j, rfl⟩ : ∃ j : Nat, i = j := ⟨i.toNat, by omega⟩
    have hj : j < o.b.length := by omega
    rw [bendsO_in hj] at hr
    have R := Lib.hid hr; clear hr
    have hd : decide (0 ≤ (j : Int) ∧ (j : Int) ≤ (o.b.length : Int) - 1) = true := decide_eq_true hin
    have hpos : 0 < o.b.length := by omega
    obtain ⟨g, off, F', rfl, rfl⟩ := HS.out.1.plain_block hpos
    have hgx := HBA.out g (by simp)
    have hcellv : w1.cell? ⟨g, off + j, none⟩ = some (.int .u8 (o.b[j].toNat : Int)) := by
      have hsa : SA w1 o.b (some ⟨g, off, none⟩) c1 := ⟨g :: F', HS.out.1, fun b hb => (HBA.out b (List.mem_append_left _ hb)).2⟩
      obtain ⟨b, of, hA, _, hc⟩ := hsa.byte_at hj
      injection hA with hA; injection hA with e1 e2
      subst e1 e2
      exact hc
    have hfz : w1.frozen? ⟨g, off + j, none⟩ = false := (HS.out.2.2.2 g (by simp)).2.frozen _
    have m1 : g ≠ w.heap.size + 1 := by omega
    have m2 : g ≠ w1.heap.size := by omega
    have m3 : w.heap.size + 1 ≠ g := by omega
    have m4 : w1.heap.size ≠ g := by omega
    have hj1 : (j : Int) < o.b.length := by omega
    have hj2 : (0 : Int) ≤ j := by omega
    go_wp2_with (go_at_call 68; (refine (within_any _ _ _ _).mono ?_; rintro e w2 ⟨rfl, hb2⟩; rw [hd]; have HB2 := Lib.hid (show Below w1.heap.size w1 w2 from bTr (bAl (bRf w1) (.cells #[.slice (some ⟨g, off, none⟩) o.b.length c1, .slice A2 o.l.length c2, .int .i64 o.code] 30)) hb2); have HX := Lib.hid ((Blk.new w1 30 #[.slice (some ⟨g, off, none⟩) o.b.length c1, .slice A2 o.l.length c2, .int .i64 o.code]).below hb2); have HQ := Lib.hid (Q1.out.below HB2.out); obtain ⟨x0, x1, x2⟩ := HX.out.c3; obtain ⟨z0, z1, z2⟩ := HQ.out.c3; have hzx := HX.out.lt; have hzq := HQ.out.lt; have g0 := HQ.out.frozen 0; have g1 := HQ.out.frozen 1; have g2 := HQ.out.frozen 2; have c0 := (HB2.out.cell (p := ⟨g, off + j, none⟩) hgx.2).trans hcellv; have cf := (HB2.out.frozen (p := ⟨g, off + j, none⟩) hgx.2).trans hfz; clear hb2))
    refine bodyPost_ret (v := .agg #[.slice (some ⟨g, off, none⟩) o.b.length c1, .slice A2 o.l.length c2, .int .i64 o.code]) (by simp [results, Try.results28, go_sem, *]) rfl ?_
    rw [R.out]
    refine ⟨some ⟨g, off, none⟩, c1, A2, c2, by simp, ?_, ?_⟩
    · have hnd := HS.out.2.2.1
      rw [List.nodup_append] at hnd
      have hk2 : ∀ b, b ∈ (g :: F') ++ F2 → w2.heap[b]? = w1.heap[b]? := fun b hb => HB2.out.block b (HBA.out b hb).2
      have hf1 : Fresh (w.heap.size + 1 + 1) w2 (g :: F') := ⟨hnd.1, fun b hb => ⟨(HBA.out b (List.mem_append_left _ hb)).1, (HS.out.2.2.2 b (List.mem_append_left _ hb)).2.keep (hk2 b (List.mem_append_left _ hb))⟩⟩
      obtain ⟨h3, h4⟩ := SlR.store1 rfl (HS.out.1.keep fun b hb => hk2 b (List.mem_append_left _ hb)) hf1 hj bytePlain (a := byteOf ((o.b[j].toNat : Int) + n)) (u := .int .u8 (((o.b[j].toNat : Int) + n) % 256)) (fun w => ⟨rfl, by rw [byteOf_val]⟩)
      have hne : ∀ b, b ∈ F2 → b ≠ g := fun b hb e => hnd.2.2 g (by simp) b hb e.symm
      have hkA : ∀ (W : World) b, b ∈ (g :: F') ++ F2 → (((W.setCell ⟨w.heap.size + 1, 0, none⟩ (.slice (some ⟨g, off, none⟩) o.b.length c1)).setCell ⟨w.heap.size + 1, 1, none⟩ (.slice A2 o.l.length c2)).setCell ⟨w.heap.size + 1, 2, none⟩ (.int .i64 o.code)).heap[b]? = W.heap[b]? := fun W b hb => by
        have := HBA.out b hb
        rw [Below.heap_setCell _ _ _ _ (by simp; omega), Below.heap_setCell _ _ _ _ (by simp; omega), Below.heap_setCell _ _ _ _ (by simp; omega)]
      have hkB : ∀ b, b ∈ F2 → (w2.setCell ⟨g, off + j, none⟩ (.int .u8 (((o.b[j].toNat : Int) + n) % 256))).heap[b]? = w1.heap[b]? := fun b hb => (Below.heap_setCell _ _ _ _ (hne b hb)).trans (hk2 b (List.mem_append_right _ hb))
      refine ⟨g :: F', F2, h3.keep fun b hb => hkA _ b (List.mem_append_left _ hb), HS.out.2.1.keep fun b hb => (hkA _ b (List.mem_append_right _ hb)).trans (hkB b hb), HS.out.2.2.1, fun b hb => ⟨by have := (HBA.out b hb).1; omega, ?_⟩⟩
      rcases List.mem_append.1 hb with hb' | hb'
      · exact (h4.2 b hb').2.keep (hkA _ b hb)
      · exact (HS.out.2.2.2 b hb).2.keep ((hkA _ b hb).trans (hkB b hb'))
    · refine Below.setCell (Below.setCell (Below.setCell (Below.setCell (HB1.out.trans (HB2.out.mono (by omega))) ?_ _) ?_ _) ?_ _) ?_ _
      all_goals (simp; try omega)
  · rw [bendsO_out hin] at hr
    have R := Lib.hid hr; clear hr
    have hd : decide (0 ≤ i ∧ i ≤ (o.b.length : Int) - 1) = false := decide_eq_false hin
    clear hin
    go_wp2_with (go_at_call 68; (refine (within_any _ _ _ _).mono ?_; rintro e w2 ⟨rfl, hb2⟩; rw [hd]; have HB2 := Lib.hid (show Below w1.heap.size w1 w2 from bTr (bAl (bRf w1) (.cells #[.slice A1 o.b.length c1, .slice A2 o.l.length c2, .int .i64 o.code] 30)) hb2); have HX := Lib.hid ((Blk.new w1 30 #[.slice A1 o.b.length c1, .slice A2 o.l.length c2, .int .i64 o.code]).below hb2); have HQ := Lib.hid (Q1.out.below HB2.out); obtain ⟨x0, x1, x2⟩ := HX.out.c3; obtain ⟨z0, z1, z2⟩ := HQ.out.c3; have hzx := HX.out.lt; have hzq := HQ.out.lt; have g0 := HQ.out.frozen 0; have g1 := HQ.out.frozen 1; have g2 := HQ.out.frozen 2; clear hb2))
    refine bodyPost_ret (v := .agg #[.slice A1 o.b.length c1, .slice A2 o.l.length c2, .int .i64 o.code]) (by simp [results, Try.results28, go_sem, *]) rfl ?_
    rw [R.out]
    refine ⟨A1, c1, A2, c2, rfl, ?_, ?_⟩
    · have hk : ∀ b, b ∈ F1 ++ F2 → (((w2.setCell ⟨w.heap.size + 1, 0, none⟩ (.slice A1 o.b.length c1)).setCell ⟨w.heap.size + 1, 1, none⟩ (.slice A2 o.l.length c2)).setCell ⟨w.heap.size + 1, 2, none⟩ (.int .i64 o.code)).heap[b]? = w1.heap[b]? := fun b hb => by
        have := HBA.out b hb
        rw [Below.heap_setCell _ _ _ _ (by simp; omega), Below.heap_setCell _ _ _ _ (by simp; omega), Below.heap_setCell _ _ _ _ (by simp; omega)]
        exact HB2.out.block b this.2
      exact ⟨F1, F2, HS.out.1.keep fun b hb => hk b (by simp [hb]), HS.out.2.1.keep fun b hb => hk b (by simp [hb]), (HS.out.2.2.keep hk).mono (by simp; omega)⟩
    · refine Below.setCell (Below.setCell (Below.setCell (HB1.out.trans (HB2.out.mono (by omega))) ?_ _) ?_ _) ?_ _
      all_goals (simp; try omega)
end Go.Proofs.Ytblcmajhdndmfaa
