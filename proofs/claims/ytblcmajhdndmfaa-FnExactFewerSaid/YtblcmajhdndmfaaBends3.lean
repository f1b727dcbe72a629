/- Contracts: Bends, in the reference, the whole. -/
import Derived.Test.YtblcmajhdndmfaaBends2
namespace Go.Proofs.Ytblcmajhdndmfaa
open Go.RowKit
set_option linter.unusedVariables false
set_option maxRecDepth 100000

theorem bendsO_bulk (o : GOut) (i n : Int) : bulkOut (bendsO o i n) ≤ bulkOut o := by
  unfold bendsO; split <;> simp [bulkOut]
theorem cntO_le (o : GOut) : cntO o ≤ 2 * bulkOut o := by
  have := cntL_le o.l; unfold cntO bulkOut; omega
theorem lenO_le (o : GOut) : o.l.length ≤ bulkOut o := by unfold bulkOut bulkLossS; omega
theorem RF.outSF {base : Nat} {w : World} {o : GOut} {A1 A2 : Option Addr} {c1 c2 n1 n2 : Nat} {k : Int} (h : RF base w o [.slice A1 n1 c1, .slice A2 n2 c2, .int .i64 k]) : ∃ F1 F2, SlR w F1 o.b A1 c1 ∧ SlR w F2 o.l A2 c2 ∧ Fresh base w (F1 ++ F2) := by
  obtain ⟨F, ⟨A, c, A', c', F1, F2, rfl, he, hI, h1, h2⟩, hF⟩ := h
  simp only [List.cons.injEq, Value.slice.injEq] at he
  obtain ⟨⟨rfl, _, rfl⟩, ⟨rfl, _, rfl⟩, _⟩ := he
  exact ⟨F1, F2, h1, h2, hF⟩
theorem and255 (y : Int) : bits .and .i64 y 255 % 256 = y % 256 := by
  have h1 : ((BitVec.ofInt 64 y).toNat : Int) = y % 18446744073709551616 := by
    rw [BitVec.toNat_ofInt, Int.toNat_of_nonneg (Int.emod_nonneg _ (by decide))]; rfl
  have h2 : (BitVec.ofInt 64 ((255 : Nat) : Int)).toNat = 255 := by
    rw [BitVec.ofInt_natCast, BitVec.toNat_ofNat]
  have h3 : bits .and .i64 y ((255 : Nat) : Int) = IntKind.i64.wrap ((BitVec.ofInt 64 y &&& BitVec.ofInt 64 ((255 : Nat) : Int)).toNat : Int) := rfl
  have h4 : ∀ T : Nat, T &&& 255 = T % 256 := fun T => Nat.and_two_pow_sub_one_eq_mod T 8
  show bits .and .i64 y ((255 : Nat) : Int) % 256 = y % 256
  rw [h3, BitVec.toNat_and, h2, h4, IntKind.wrap_i64]
  generalize (BitVec.ofInt 64 y).toNat = T at h1 ⊢
  have h5 : T % 256 < 256 := Nat.mod_lt _ (by decide)
  have h6 : ((T % 256 : Nat) : Int) = y % 256 := by
    rw [show ((T % 256 : Nat) : Int) = (T : Int) % 256 from by omega, h1]
    exact Int.emod_emod_of_dvd y (by decide)
  generalize T % 256 = m at h5 h6 ⊢
  have h7 : ((m : Int) + 9223372036854775808) % 18446744073709551616 = (m : Int) + 9223372036854775808 := Int.emod_eq_of_lt (by omega) (by omega)
  rw [h7, ← h6]
  omega
theorem bent (b n : Int) : bits .and .i64 (wrap64 (wrap64 b + n)) 255 % 256 = (b + n) % 256 := by
  rw [and255]
  unfold wrap64
  omega

set_option maxHeartbeats 1000000 in
theorem specBends_any (o : GOut) (i n : Int) (A A' : Option Addr) (c c' : Nat) (w : World) (hn : bulkOut o ≤ 1048576) (hI : I64 i) (hN : I64 n) (h1 : SA w o.b A c) (h2 : SA w o.l A' c') :
    Calls Try.prog 27 #[.agg #[.slice A o.b.length c, .slice A' o.l.length c', .int .i64 o.code], .int .i64 i, .int .i64 n] w (RetOA w (bendsO o i n)) := by
  have hbl : o.b.length ≤ 1048576 := by unfold bulkOut at hn; omega
  have hi1 := hI.1; have hi2 := hI.2; have hn1 := hN.1; have hn2 := hN.2
  clear hI hN
  have b0 := bAl (bAl (bRf w) (.cells #[.slice A o.b.length c, .slice A' o.l.length c', .int .i64 o.code] 30)) (.cells #[.slice none 0 0, .slice none 0 0, .int .i64 0] 30)
  have E := Lib.hid (And.intro (h1.below b0) (h2.below b0)); clear h1 h2
  have P1 := Lib.hid (Blk.at (w := w.alloc (.cells #[.slice A o.b.length c, .slice A' o.l.length c', .int .i64 o.code] 30)) (g := w.heap.size + 1) (t := 30) (cs := #[.slice none 0 0, .slice none 0 0, .int .i64 0]) (by simp))
  have B0 := Lib.hid b0; clear b0
  obtain ⟨r, hr⟩ : ∃ r, r = bendsO o i n := ⟨_, rfl⟩
  rw [← hr]
  go_enter Try.func27, Try.ntmps27
  go_wp2_with fail
  refine (l28Copy_any o A A' c c' _ hn E.out.1 E.out.2).mono ?_
  rintro e w1 ⟨A1, c1, A2, c2, rfl, ⟨F1, F2, hs1, hs2, hf12⟩, hb1⟩
  have hB1 := Lib.hid (And.intro (bTr B0.out hb1) hb1)
  have Q1 := Lib.hid (P1.out.below hb1)
  have hz1 : w.heap.size + 1 < w1.heap.size := Q1.out.lt
  have hdis : ∀ b, b ∈ F1 → b ∉ F2 := fun b h1 h2 => by
    have h := hf12.1
    rw [List.nodup_append] at h
    exact h.2.2 b h1 b h2 rfl
  have HDIS := Lib.hid hdis; clear hdis
  have hf1 : Fresh _ w1 F1 := ⟨(List.nodup_append.1 hf12.1).1, fun b hb => hf12.2 b (List.mem_append_left _ hb)⟩
  have hf2 : Fresh _ w1 F2 := ⟨(List.nodup_append.1 hf12.1).2.1, fun b hb => hf12.2 b (List.mem_append_right _ hb)⟩
  clear hf12
  have hlt1 : ∀ b, b ∈ F1 → w.heap.size + 1 + 1 ≤ b ∧ b < w1.heap.size := fun b hb => ⟨by have := (hf1.2 b hb).1; simp at this; omega, (hf1.2 b hb).2.lt⟩
  have hlt2 : ∀ b, b ∈ F2 → w.heap.size + 1 + 1 ≤ b ∧ b < w1.heap.size := fun b hb => ⟨by have := (hf2.2 b hb).1; simp at this; omega, (hf2.2 b hb).2.lt⟩
  have HS := Lib.hid (And.intro hs1 (And.intro hf1 (And.intro hs2 (And.intro hlt1 hlt2))))
  have hc1 : o.b.length ≤ c1 := hs1.1
  clear hs1 hf1 hs2 hf2 hlt1 hlt2 hb1
  by_cases hin : 0 ≤ i ∧ i ≤ (o.b.length : Int) - 1
  · obtain ⟨j, rfl⟩ : ∃ j : Nat, i = j := ⟨i.toNat, by omega⟩
    have hj : j < o.b.length := by omega
    rw [bendsO_in hj] at hr
    have R := Lib.hid hr; clear hr
    have hd : decide (0 ≤ (j : Int) ∧ (j : Int) ≤ (o.b.length : Int) - 1) = true := decide_eq_true hin
    have hpos : 0 < o.b.length := by omega
    obtain ⟨g, off, F', rfl, rfl⟩ := HS.out.1.plain_block hpos
    have hgx := HS.out.2.2.2.1 g (by simp)
    have hcellv : w1.cell? ⟨g, off + j, none⟩ = some (.int .u8 (o.b[j].toNat : Int)) := by
      have hsa : SA w1 o.b (some ⟨g, off, none⟩) c1 := ⟨g :: F', HS.out.1, fun b hb => (HS.out.2.2.2.1 b hb).2⟩
      obtain ⟨b, of, hA, _, hc⟩ := hsa.byte_at hj
      injection hA with hA; injection hA with e1 e2
      subst e1 e2
      exact hc
    have hfz : w1.frozen? ⟨g, off + j, none⟩ = false := (HS.out.2.1.2 g (by simp)).2.frozen _
    have m1 : g ≠ w.heap.size + 1 := by omega
    have m2 : g ≠ w1.heap.size := by omega
    have m3 : w.heap.size + 1 ≠ g := by omega
    have m4 : w1.heap.size ≠ g := by omega
    have hj1 : (j : Int) < o.b.length := by omega
    have hj2 : (0 : Int) ≤ j := by omega
    go_wp2_with (go_at_call 66; (refine (l1In_any _ _ _ _).mono ?_; rintro e w2 ⟨rfl, hb2⟩; rw [hd]; have HB2 := Lib.hid (show Below w1.heap.size w1 w2 from bTr (bAl (bRf w1) (.cells #[.slice (some ⟨g, off, none⟩) o.b.length c1, .slice A2 o.l.length c2, .int .i64 o.code] 30)) hb2); have HX := Lib.hid ((Blk.new w1 30 #[.slice (some ⟨g, off, none⟩) o.b.length c1, .slice A2 o.l.length c2, .int .i64 o.code]).below hb2); have HQ := Lib.hid (Q1.out.below HB2.out); obtain ⟨x0, x1, x2⟩ := HX.out.c3; obtain ⟨z0, z1, z2⟩ := HQ.out.c3; have hzx := HX.out.lt; have hzq := HQ.out.lt; have g0 := HQ.out.frozen 0; have g1 := HQ.out.frozen 1; have g2 := HQ.out.frozen 2; have c0 := (HB2.out.cell (p := ⟨g, off + j, none⟩) hgx.2).trans hcellv; have cf := (HB2.out.frozen (p := ⟨g, off + j, none⟩) hgx.2).trans hfz; clear hb2))
    go_still_tail 14, (by kernel_rfl)
    change wpList _ _ _ _ _ w2.drew
    go_wp2_with fail
    refine bodyPost_ret (v := .agg #[.slice (some ⟨g, off, none⟩) o.b.length c1, .slice A2 o.l.length c2, .int .i64 o.code]) (by simp [results, Try.results27, go_sem, *]) rfl ?_
    rw [R.out, bent]
    have hk2 : ∀ b, b ∈ g :: F' → w2.heap[b]? = w1.heap[b]? := fun b hb => HB2.out.block b (HS.out.2.2.2.1 b hb).2
    have hf1 : Fresh (w.heap.size + 1 + 1) w2 (g :: F') := ⟨HS.out.2.1.1, fun b hb => ⟨(HS.out.2.2.2.1 b hb).1, (HS.out.2.1.2 b hb).2.keep (hk2 b hb)⟩⟩
    obtain ⟨h3, h4⟩ := SlR.store1 rfl (HS.out.1.keep hk2) hf1 hj bytePlain (a := byteOf ((o.b[j].toNat : Int) + n)) (u := .int .u8 (((o.b[j].toNat : Int) + n) % 256)) (fun w => ⟨rfl, by rw [byteOf_val]⟩)
    have hk : ∀ (W : World) b, w.heap.size + 1 + 1 ≤ b → (((W.setCell ⟨w.heap.size + 1, 0, none⟩ (.slice (some ⟨g, off, none⟩) o.b.length c1)).setCell ⟨w.heap.size + 1, 1, none⟩ (.slice A2 o.l.length c2)).setCell ⟨w.heap.size + 1, 2, none⟩ (.int .i64 o.code)).drew.heap[b]? = W.heap[b]? := fun W b hb => by
      show (((W.setCell ⟨w.heap.size + 1, 0, none⟩ (.slice (some ⟨g, off, none⟩) o.b.length c1)).setCell ⟨w.heap.size + 1, 1, none⟩ (.slice A2 o.l.length c2)).setCell ⟨w.heap.size + 1, 2, none⟩ (.int .i64 o.code)).heap[b]? = W.heap[b]?
      rw [Below.heap_setCell _ _ _ _ (by simp; omega), Below.heap_setCell _ _ _ _ (by simp; omega), Below.heap_setCell _ _ _ _ (by simp; omega)]
    have hsz := HB2.out.size
    refine ⟨some ⟨g, off, none⟩, c1, A2, c2, by simp, ⟨g :: F', h3.keep fun b hb => hk _ b (HS.out.2.2.2.1 b hb).1, fun b hb => ?_⟩, ⟨F2, HS.out.2.2.1.keep fun b hb => ?_, fun b hb => ?_⟩, ?_⟩
    · have := (HS.out.2.2.2.1 b hb).2; simp [World.setCell, World.drew]; omega
    · rw [hk _ b (HS.out.2.2.2.2 b hb).1, Below.heap_setCell _ _ _ _ (fun e => HDIS.out g (by simp) (by rw [← show b = g from e]; exact hb))]
      exact HB2.out.block b (HS.out.2.2.2.2 b hb).2
    · have := (HS.out.2.2.2.2 b hb).2; simp [World.setCell, World.drew]; omega
    · refine Below.drew (Below.setCell (Below.setCell (Below.setCell (Below.setCell (hB1.out.1.trans (HB2.out.mono (by omega))) ?_ _) ?_ _) ?_ _) ?_ _)
      all_goals (simp; try omega)
  · rw [bendsO_out hin] at hr
    have R := Lib.hid hr; clear hr
    have hd : decide (0 ≤ i ∧ i ≤ (o.b.length : Int) - 1) = false := decide_eq_false hin
    clear hin
    go_wp2_with (go_at_call 66; (refine (l1In_any _ _ _ _).mono ?_; rintro e w2 ⟨rfl, hb2⟩; rw [hd]; have HB2 := Lib.hid (show Below w1.heap.size w1 w2 from bTr (bAl (bRf w1) (.cells #[.slice A1 o.b.length c1, .slice A2 o.l.length c2, .int .i64 o.code] 30)) hb2); have HX := Lib.hid ((Blk.new w1 30 #[.slice A1 o.b.length c1, .slice A2 o.l.length c2, .int .i64 o.code]).below hb2); have HQ := Lib.hid (Q1.out.below HB2.out); obtain ⟨x0, x1, x2⟩ := HX.out.c3; obtain ⟨z0, z1, z2⟩ := HQ.out.c3; have hzx := HX.out.lt; have hzq := HQ.out.lt; have g0 := HQ.out.frozen 0; have g1 := HQ.out.frozen 1; have g2 := HQ.out.frozen 2; clear hb2))
    refine bodyPost_ret (v := .agg #[.slice A1 o.b.length c1, .slice A2 o.l.length c2, .int .i64 o.code]) (by simp [results, Try.results27, go_sem, *]) rfl ?_
    rw [R.out]
    have hk : ∀ b, b < w1.heap.size → b ≠ w.heap.size + 1 → (((w2.setCell ⟨w.heap.size + 1, 0, none⟩ (.slice A1 o.b.length c1)).setCell ⟨w.heap.size + 1, 1, none⟩ (.slice A2 o.l.length c2)).setCell ⟨w.heap.size + 1, 2, none⟩ (.int .i64 o.code)).heap[b]? = w1.heap[b]? := fun b hb hb' => by
      rw [Below.heap_setCell _ _ _ _ hb', Below.heap_setCell _ _ _ _ hb', Below.heap_setCell _ _ _ _ hb']
      exact HB2.out.block b hb
    have hsz := HB2.out.size
    refine ⟨A1, c1, A2, c2, rfl, ⟨F1, HS.out.1.keep fun b hb => hk b (HS.out.2.2.2.1 b hb).2 (by have := (HS.out.2.2.2.1 b hb).1; omega), fun b hb => ?_⟩, ⟨F2, HS.out.2.2.1.keep fun b hb => hk b (HS.out.2.2.2.2 b hb).2 (by have := (HS.out.2.2.2.2 b hb).1; omega), fun b hb => ?_⟩, ?_⟩
    · have := (HS.out.2.2.2.1 b hb).2; simp [World.setCell]; omega
    · have := (HS.out.2.2.2.2 b hb).2; simp [World.setCell]; omega
    · refine Below.setCell (Below.setCell (Below.setCell (hB1.out.1.trans (HB2.out.mono (by omega))) ?_ _) ?_ _) ?_ _
      all_goals (simp; try omega)
end Go.Proofs.Ytblcmajhdndmfaa
