/- Contracts of the laws' marks: trees. -/
import Derived.Test.YtblcmajhdndmfaaMark3
import Derived.Test.YtblcmajhdndmfaaLawV
namespace Go.Proofs.Ytblcmajhdndmfaa
open Go.RowKit
set_option linter.unusedVariables false
set_option maxRecDepth 100000

mutual
def cntV : GVal → Nat
  | ⟨_, _, _, _, l⟩ => 4 + cntVs l
def cntVs : List GVal → Nat
  | [] => 0
  | a :: l => cntV a + cntVs l
end
mutual
def markV : GVal → Int → GVal
  | ⟨_, _, _, _, l⟩, k => ⟨k, k + 1, k + 2, markTx (k + 3), markVs l (k + 4)⟩
def markVs : List GVal → Int → List GVal
  | [], _ => []
  | a :: l, k => markV a k :: markVs l (k + cntV a)
end
theorem cntV_eq (v : GVal) : cntV v = 4 + cntVs v.l := by cases v; rw [cntV]
theorem markV_eq (v : GVal) (k : Int) : markV v k = ⟨k, k + 1, k + 2, markTx (k + 3), markVs v.l (k + 4)⟩ := by cases v; rw [markV]
theorem markVs_len : ∀ (l : List GVal) (k : Int), (markVs l k).length = l.length
  | [], k => by rw [markVs]
  | a :: l, k => by rw [markVs]; simp [markVs_len l]
mutual
theorem cntV_le : ∀ (v : GVal), cntV v ≤ 4 + 4 * bulkVal v
  | ⟨_, _, _, s, l⟩ => by have := cntVs_le l; rw [cntV, bulkVal]; omega
theorem cntVs_le : ∀ (l : List GVal), cntVs l ≤ 4 * bulkVals l
  | [] => by simp [cntVs]
  | a :: l => by have := cntV_le a; have := cntVs_le l; rw [cntVs, bulkVals]; omega
end
theorem cells_five {w : World} {g o : Nat} {a b c d e : Value} (h0 : w.cell? ⟨g, o, none⟩ = some a) (h1 : w.cell? ⟨g, o + 1, none⟩ = some b) (h2 : w.cell? ⟨g, o + 1 + 1, none⟩ = some c) (h3 : w.cell? ⟨g, o + 1 + 1 + 1, none⟩ = some d) (h4 : w.cell? ⟨g, o + 1 + 1 + 1 + 1, none⟩ = some e) : CellsAt w g o [a, b, c, d, e] := fun j x hj => by
  match j with
  | 0 => simp at hj; subst hj; exact h0
  | 1 => simp at hj; subst hj; exact h1
  | 2 => simp at hj; subst hj; exact h2
  | 3 => simp at hj; subst hj; exact h3
  | 4 => simp at hj; subst hj; exact h4
  | j + 5 => simp at hj

def MarkVal (v : GVal) : Prop := ∀ (k : Int) (F : List Nat) (A : Option Addr) (c base : Nat) (w : World), 0 ≤ k → k + cntVs v.l ≤ 1000000000000000 → SlR w F v.l A c → Fresh base w F → base ≤ w.heap.size →
    Calls Try.prog 63 #[.slice A v.l.length c, .int .i64 k] w (RetM base w F (markVs v.l k) A c (k + cntVs v.l))

theorem markValS_of (l : List GVal) (k : Int) (F : List Nat) (A : Option Addr) (c base : Nat) (w : World) (hk : 0 ≤ k) (hk2 : k + cntVs l ≤ 1000000000000000) (h : SlR w F l A c) (hF : Fresh base w F) (hbw : base ≤ w.heap.size) (hn4 : l.length ≤ 1000000000000000) (IH : ∀ i (hi : i < l.length), MarkVal l[i]) :
    Calls Try.prog 63 #[.slice A l.length c, .int .i64 k] w (RetM base w F (markVs l k) A c (k + cntVs l)) := by
  have hlc := h.1; have hcm := h.2.1
  have IH' := Lib.hid IH; clear IH
  by_cases hl : l.length = 0
  · have hln := List.eq_nil_of_length_eq_zero hl
    subst hln
    have E := Lib.hid (And.intro h hF); clear h hF
    go_enter Try.func63, Try.ntmps63
    go_wp2_with fail
    go_loopg [1, 5] 0 (fun gk kk i wr => kk = .int .i64 k ∧ i = .int .i64 0 ∧ wr = w)
    case atStart => exact ⟨rfl, rfl, rfl⟩
    case round =>
      obtain ⟨rfl, rfl, rfl⟩ := hrel
      go_wp2_with fail
      go_ret
      exact ⟨by simp [cntVs], by rw [markVs]; exact E.out.1, E.out.2, Kept.refl _ _⟩
  · obtain ⟨g, off, F', rfl, rfl⟩ := h.plain_block (by omega)
    have M0 := Lib.hid (MarkS.start h hF)
    have hlm : l.length ≤ 9223372036854775807 := by omega
    clear h hF
    obtain ⟨tot, htot⟩ : ∃ tot : Int, tot = k + cntVs l := ⟨_, rfl⟩
    rw [← htot] at hk2 ⊢
    have TT := Lib.hid htot; clear htot
    go_enter Try.func63, Try.ntmps63
    go_wp2_with fail
    go_loopg [1, 5] l.length (fun gk kk i wr => ∃ (n : Nat) (kc : Int) (done : List GVal), n ≤ l.length ∧ kk = .int .i64 kc ∧ 0 ≤ kc ∧ i = .int .i64 n ∧ gk = l.length - n ∧ done.length = n ∧ Hid (done ++ markVs (l.drop n) kc = markVs l k ∧ kc + cntVs (l.drop n) = tot) ∧ MarkS base g off done (l.drop n) F' wr ∧ Kept (g :: F') w wr)
    case atStart => exact ⟨0, k, [], by omega, rfl, hk, rfl, by omega, rfl, ⟨rfl, TT.out.symm⟩, M0.out, Kept.refl _ _⟩
    case round =>
      obtain ⟨n, kc, done, hn, rfl, hkc, rfl, rfl, hdl, hT, hM, hK⟩ := hrel
      subst hdl
      by_cases hlt : done.length < l.length
      · have hdr : l.drop done.length = l[done.length] :: l.drop (done.length + 1) := List.drop_eq_getElem_cons hlt
        rw [hdr] at hM
        have hpl := (hM.fresh.2 g (by simp)).2
        obtain ⟨Fa, cs, hr0, hc, hsub, hg, hfa, hstep⟩ := hM.head
        obtain ⟨A1, c1, rfl, hI0, hs1⟩ := rpVal_iff.1 hr0
        have k0 := hc.c0
        have k1 := hc.c1
        have k2 := hc.c2
        have k3 := hc.c3
        have k4 := hc.c4
        simp only [Rep.wd] at k0 k1 k2 k3 k4 hstep
        have f0 := hpl.frozen (off + done.length * 5)
        have f1 := hpl.frozen (off + done.length * 5 + 1)
        have f2 := hpl.frozen (off + done.length * 5 + 1 + 1)
        have hT1 := hT.out
        rw [hdr, markVs, cntVs, cntV_eq] at hT1
        have hk3 : kc + 4 + cntVs l[done.length].l ≤ tot := by have := hT1.2; omega
        have HT1 := Lib.hid hT1; clear hT1
        have hgl := hpl.lt
        have HM := Lib.hid (And.intro hstep (And.intro hK hpl)); clear hstep hK hM hc hI0 hr0
        have HS := Lib.hid (And.intro hs1 (And.intro hfa (And.intro hg hsub))); clear hs1 hfa hg hsub
        go_wp2_with fail
        obtain ⟨o, ho⟩ : ∃ o, o = off + done.length * 5 := ⟨_, rfl⟩
        rw [← ho] at k0 k1 k2 k3 k4 f0 f1 f2
        obtain ⟨W3, hW3⟩ : ∃ W3, W3 = ((wr.setCell ⟨g, o, none⟩ (.int .i64 kc)).setCell ⟨g, o + 1, none⟩ (.int .i64 (kc + 1))).setCell ⟨g, o + 2, none⟩ (.int .i64 (kc + 1 + 1)) := ⟨_, rfl⟩
        rw [ho] at hW3
        rw [← hW3]
        rw [← ho] at hW3
        have hc3 : ∀ j, j ≠ o → j ≠ o + 1 → j ≠ o + 2 → W3.cell? ⟨g, j, none⟩ = wr.cell? ⟨g, j, none⟩ := fun j h0 h1 h2 => by
          rw [hW3, cell_set_ne _ _ _ _ _ h2, cell_set_ne _ _ _ _ _ h1, cell_set_ne _ _ _ _ _ h0]
        have hb3 : ∀ b, b ≠ g → W3.heap[b]? = wr.heap[b]? := fun b hb => by
          rw [hW3, Below.heap_setCell _ _ _ _ hb, Below.heap_setCell _ _ _ _ hb, Below.heap_setCell _ _ _ _ hb]
        have m0 : W3.cell? ⟨g, o, none⟩ = some (.int .i64 kc) := by
          rw [hW3, cell_set_ne _ _ _ _ _ (by omega), cell_set_ne _ _ _ _ _ (by omega)]; exact cell_set_eq _ _ _ _ _ k0
        have m1 : W3.cell? ⟨g, o + 1, none⟩ = some (.int .i64 (kc + 1)) := by
          rw [hW3, cell_set_ne _ _ _ _ _ (by omega)]; exact cell_set_eq _ _ _ _ _ ((cell_set_ne _ _ _ _ _ (by omega)).trans k1)
        have m2 : W3.cell? ⟨g, o + 2, none⟩ = some (.int .i64 (kc + 1 + 1)) := by
          rw [hW3]; exact cell_set_eq _ _ _ _ _ (((cell_set_ne _ _ _ _ _ (by omega)).trans (cell_set_ne _ _ _ _ _ (by omega))).trans k2)
        have m3 : W3.cell? ⟨g, o + 3, none⟩ = some (.string l[done.length].s) := (hc3 _ (by omega) (by omega) (by omega)).trans k3
        have m4 : W3.cell? ⟨g, o + 4, none⟩ = some (.slice A1 l[done.length].l.length c1) := (hc3 _ (by omega) (by omega) (by omega)).trans k4
        have hp3 : Plain W3 g := by rw [hW3]; exact ((HM.out.2.2.set _ _).set _ _).set _ _
        have hs3 : W3.heap.size = wr.heap.size := by rw [hW3]; simp [World.setCell]
        clear k0 k1 k2 k3 k4 f0 f1 f2
        have C3 := Lib.hid (And.intro hc3 (And.intro hb3 (And.intro m0 (And.intro m1 (And.intro m2 (And.intro m3 (And.intro m4 hp3)))))))
        have K3 := Lib.hid (show Kept (g :: F') wr W3 by rw [hW3]; exact (Kept.set (by simp) _).trans ((Kept.set (by simp) _).trans (Kept.set (by simp) _)))
        clear hc3 hb3 m0 m1 m2 m3 m4 hp3 hW3
        refine (markText_any _ W3 (by omega) (by omega)).mono ?_
        rintro e w1 ⟨rfl, hb1⟩
        have c3 : w1.cell? ⟨g, o + 3, none⟩ = some (.string l[done.length].s) := (hb1.cell (p := ⟨g, o + 3, none⟩) (by simpa [hs3] using hgl)).trans C3.out.2.2.2.2.2.1
        have c4 : w1.cell? ⟨g, o + 4, none⟩ = some (.slice A1 l[done.length].l.length c1) := (hb1.cell (p := ⟨g, o + 4, none⟩) (by simpa [hs3] using hgl)).trans C3.out.2.2.2.2.2.2.1
        have hp1 : Plain w1 g := C3.out.2.2.2.2.2.2.2.keep (hb1.block g (by omega))
        have f3 := hp1.frozen (o + 3)
        have HB1 := Lib.hid (And.intro hb1 hp1); clear hb1 hp1
        rw [ho] at c3 c4 f3
        go_wp2_with fail
        rw [← ho] at c3 c4 f3
        have hkeep : ∀ b, b ∈ Fa → (w1.setCell ⟨g, o + 3, none⟩ (.string (markTx (kc + 1 + 1 + 1)))).heap[b]? = wr.heap[b]? := fun b hb => by
          have hne : b ≠ g := fun e => HS.out.2.2.1 (e ▸ hb)
          rw [Below.heap_setCell _ _ _ _ hne, HB1.out.1.block b (by rw [hs3]; exact (HS.out.2.1.2 b hb).2.lt)]
          exact C3.out.2.1 b hne
        have hsz1 : W3.heap.size ≤ w1.heap.size := HB1.out.1.size
        rw [← ho]
        refine (IH'.out done.length hlt (kc + 1 + 1 + 1 + 1) Fa A1 c1 base (w1.setCell ⟨g, o + 3, none⟩ (.string (markTx (kc + 1 + 1 + 1)))) (by omega) (by omega) (HS.out.1.keep hkeep) (HS.out.2.1.keep hkeep) (by simp [World.setCell]; have := (HM.out.2.1).2.2.2.1; omega)).mono ?_
        rintro e w2 ⟨rfl, hs2, hf2, hk2'⟩
        have HR := Lib.hid (And.intro hs2 (And.intro hf2 hk2')); clear hs2 hf2 hk2' hkeep
        go_wp2_with fail
        go_roundg (l.length - (done.length + 1))
        case measure => omega
        case rel =>
          have hg2 : w2.heap[g]? = (w1.setCell ⟨g, o + 3, none⟩ (.string (markTx (kc + 1 + 1 + 1)))).heap[g]? := HR.out.2.2.2.2.2.2 g (by simp [World.setCell]; omega) HS.out.2.2.1
          have hcg : ∀ j, w2.cell? ⟨g, j, none⟩ = (w1.setCell ⟨g, o + 3, none⟩ (.string (markTx (kc + 1 + 1 + 1)))).cell? ⟨g, j, none⟩ := fun j => World.cell?_of_block (a := ⟨g, j, none⟩) hg2
          have hc1 : ∀ j, j ≠ o + 3 → w2.cell? ⟨g, j, none⟩ = W3.cell? ⟨g, j, none⟩ := fun j hj => by
            rw [hcg, cell_set_ne _ _ _ _ _ hj]
            exact HB1.out.1.cell (p := ⟨g, j, none⟩) (by simpa [hs3] using hgl)
          have hms := markVs_len l[done.length].l (kc + 4)
          have hr := HR.out
          rw [show kc + 1 + 1 + 1 + 1 = kc + 4 by omega] at hr
          have hmt : markTx (kc + 1 + 1 + 1) = markTx (kc + 3) := by rw [show kc + 1 + 1 + 1 = kc + 3 by omega]
          refine ⟨done.length + 1, kc + 4 + cntVs l[done.length].l, done ++ [markV l[done.length] kc], by omega, by (try simp); omega, by omega, by go_num, rfl, by simp, ⟨?_, ?_⟩, ?_, ?_⟩
          · have e : (kc + 4 + (cntVs l[done.length].l : Int)) = kc + ((4 + cntVs l[done.length].l : Nat) : Int) := by omega
            rw [e, ← HT1.out.1, List.append_assoc]; rfl
          · have := HT1.out.2; omega
          · refine HM.out.1 _ (markV l[done.length] kc) [.int .i64 kc, .int .i64 (kc + 1), .int .i64 (kc + 2), .string (markTx (kc + 3)), .slice A1 l[done.length].l.length c1] ?_ (cells_five ?_ ?_ ?_ ?_ ?_) ?_ ?_ ?_
            · rw [markV_eq]
              refine rpVal_iff.2 ⟨A1, c1, by simp [hms], ⟨by constructor <;> (simp; omega), by constructor <;> (simp; omega), by constructor <;> (simp; omega), ?_⟩, hr.1⟩
              have := markTx_size (kc + 3); unfold maxLen; simp; omega
            · rw [← ho, hc1 _ (by omega)]; exact C3.out.2.2.1
            · rw [← ho, hc1 _ (by omega)]; exact C3.out.2.2.2.1
            · rw [← ho, hc1 _ (by omega), show kc + 2 = kc + 1 + 1 by omega]; exact C3.out.2.2.2.2.1
            · rw [← ho, hcg, ← hmt]; exact cell_set_eq _ _ _ _ _ c3
            · rw [← ho, hc1 _ (by omega)]; exact C3.out.2.2.2.2.2.2.1
            · intro j hj; rw [← ho] at hj; rw [hc1 _ (by omega)]; exact C3.out.1 j (by omega) (by omega) (by omega)
            · intro b hb hbg hba
              rw [hr.2.2.2.2.2.2 b (by simp [World.setCell]; omega) hba, Below.heap_setCell _ _ _ _ hbg, HB1.out.1.block b (by omega)]
              exact C3.out.2.1 b hbg
            · intro b hb
              rcases List.mem_cons.1 hb with rfl | hb
              · exact (HB1.out.2.set _ _).keep hg2
              · exact (hr.2.1.2 b hb).2
          · exact HM.out.2.1.trans (K3.out.trans ((Kept.of_below HB1.out.1).trans ((Kept.set (by simp) _).trans (HR.out.2.2.mono fun b hb => List.mem_cons_of_mem _ (HS.out.2.2.2 b hb)))))
      · have e : done.length = l.length := by omega
        have hd : l.drop done.length = [] := by rw [e, List.drop_length]
        rw [hd] at hM
        have hfin := hT.out
        rw [hd, markVs, List.append_nil] at hfin
        have htt : kc = tot := by have := hfin.2; simpa [cntVs] using this
        subst htt
        have HE := Lib.hid (And.intro (hM.finish (c := c) (by omega) hcm) (And.intro hM.fresh (And.intro hK hfin.1))); clear hM hK hfin hT hd
        go_wp2_with fail
        go_ret
        exact ⟨rfl, HE.out.2.2.2 ▸ HE.out.1, HE.out.2.1, HE.out.2.2.1⟩

theorem cntVs_len : ∀ (l : List GVal), l.length ≤ cntVs l
  | [] => by simp
  | a :: l => by have := cntVs_len l; have := cntV_eq a; rw [cntVs, List.length_cons]; omega
theorem markVal_ind (v : GVal) : MarkVal v := by
  refine GVal.ind (fun v IH => ?_) v
  intro k F A c base w hk hk2 h hF hb
  exact markValS_of v.l k F A c base w hk hk2 h hF hb (by have := cntVs_len v.l; omega) IH
theorem markVal_any (v : GVal) (k : Int) (F : List Nat) (A : Option Addr) (c base : Nat) (w : World) (hk : 0 ≤ k) (hk2 : k + cntVs v.l ≤ 1000000000000000) (hn : bulkVal v ≤ 1048576) (h : SlR w F v.l A c) (hF : Fresh base w F) (hb : base ≤ w.heap.size) :
    Calls Try.prog 24 #[.agg #[.int .i64 v.kind, .int .i64 v.n, .int .i64 v.x, .string v.s, .slice A v.l.length c], .int .i64 k] w (RetM base w F (markVs v.l k) A c (k + cntVs v.l)) := by
  obtain ⟨tot, htot⟩ : ∃ tot : Int, tot = k + cntVs v.l := ⟨_, rfl⟩
  have b0 := bAl (bRf w) (.cells #[.int .i64 v.kind, .int .i64 v.n, .int .i64 v.x, .string v.s, .slice A v.l.length c] 40)
  have hC := markVal_ind v k F A c base (w.alloc (.cells #[.int .i64 v.kind, .int .i64 v.n, .int .i64 v.x, .string v.s, .slice A v.l.length c] 40)) hk hk2 (h.keep fun b hm => b0.block b (hF.2 b hm).2.lt) (hF.below b0) (by simp; omega)
  rw [← htot] at hC ⊢
  have C := Lib.hid hC; clear hC
  have B0 := Lib.hid b0; clear b0
  clear h hF htot hk2
  go_enter Try.func24, Try.ntmps24
  go_wp2_with fail
  refine C.out.mono ?_
  rintro e w1 ⟨rfl, hs1, hf1, hk1⟩
  have HE := Lib.hid (And.intro hs1 (And.intro hf1 hk1)); clear hs1 hf1 hk1
  go_wp2_with fail
  go_ret
  exact ⟨rfl, HE.out.1, HE.out.2.1, (Kept.of_below B0.out).trans HE.out.2.2⟩
end Go.Proofs.Ytblcmajhdndmfaa
