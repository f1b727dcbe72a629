/- Contracts of the laws' marks: what they write, what they find. -/
import Derived.Test.YtblcmajhdndmfaaLaw3
import Derived.Test.YtblcmajhdndmfaaMark
namespace Go.Proofs.Ytblcmajhdndmfaa
open Go.RowKit
set_option linter.unusedVariables false
set_option maxRecDepth 100000

/-- Where the marks stand: a row is turned to l', nothing but the blocks F has turned. -/
def RetM {α : Type} [Rep α] (base : Nat) (w : World) (F : List Nat) (l' : List α) (A : Option Addr) (c : Nat) (k : Int) (e : Ending) (w' : World) : Prop :=
  e = .returned (.int .i64 k) ∧ SlR w' F l' A c ∧ Fresh base w' F ∧ Kept F w w'
theorem cells_one {w : World} {g o : Nat} {u : Value} (h : w.cell? ⟨g, o, none⟩ = some u) : CellsAt w g o [u] := fun j v hj => by
  cases j with
  | zero => simp at hj; subst hj; exact h
  | succ j => simp at hj
theorem cells_two {w : World} {g o : Nat} {u v : Value} (h : w.cell? ⟨g, o, none⟩ = some u) (h' : w.cell? ⟨g, o + 1, none⟩ = some v) : CellsAt w g o [u, v] := fun j x hj => by
  match j with
  | 0 => simp at hj; subst hj; exact h
  | 1 => simp at hj; subst hj; exact h'
  | j + 2 => simp at hj


theorem markByteS_any (l : List UInt8) (k : Int) (F : List Nat) (A : Option Addr) (c base : Nat) (w : World) (hk : 0 ≤ k) (hk2 : k + l.length ≤ 1000000000000000) (h : SlR w F l A c) (hF : Fresh base w F) :
    Calls Try.prog 69 #[.slice A l.length c, .int .i64 k] w (RetM base w F (markB k l) A c (k + l.length)) := by
  have hlc := h.1; have hcm := h.2.1
  by_cases hl : l.length = 0
  · have hln := List.eq_nil_of_length_eq_zero hl
    subst hln
    have E := Lib.hid (And.intro h hF); clear h hF
    go_enter Try.func69, Try.ntmps69
    go_wp2_with fail
    go_loopg [1, 5] 0 (fun gk kk i wr => kk = .int .i64 k ∧ i = .int .i64 0 ∧ wr = w)
    case atStart => exact ⟨rfl, rfl, rfl⟩
    case round =>
      obtain ⟨rfl, rfl, rfl⟩ := hrel
      go_wp2_with fail
      go_ret
      exact ⟨by simp, E.out.1, E.out.2, Kept.refl _ _⟩
  · obtain ⟨g, off, F', rfl, rfl⟩ := h.plain_block (by omega)
    have M0 := Lib.hid (MarkS.start h hF)
    have hlm : l.length ≤ 9223372036854775807 := by omega
    clear h hF
    go_enter Try.func69, Try.ntmps69
    go_wp2_with fail
    go_loopg [1, 5] l.length (fun gk kk i wr => ∃ (n : Nat) (done : List UInt8), n ≤ l.length ∧ kk = .int .i64 (k + n) ∧ i = .int .i64 n ∧ gk = l.length - n ∧ done.length = n ∧ Hid (done ++ markB (k + n) (l.drop n) = markB k l) ∧ MarkS base g off done (l.drop n) F' wr ∧ Kept (g :: F') w wr)
    case atStart => exact ⟨0, [], by omega, by simp, rfl, by omega, rfl, by simp [Hid], M0.out, Kept.refl _ _⟩
    case round =>
      obtain ⟨n, done, hn, rfl, rfl, rfl, hdl, hT, hM, hK⟩ := hrel
      subst hdl
      by_cases hlt : done.length < l.length
      · have hdr : l.drop done.length = l[done.length] :: l.drop (done.length + 1) := List.drop_eq_getElem_cons hlt
        rw [hdr] at hM
        have hpl := (hM.fresh.2 g (by simp)).2
        obtain ⟨Fa, cs, ⟨rfl, rfl⟩, hc, _, _, _, hstep⟩ := hM.head
        have k0 := hc.c0
        simp only [Rep.wd, Nat.mul_one] at k0 hstep
        have f0 := hpl.frozen (off + done.length)
        have HM := Lib.hid (And.intro hstep (And.intro hK hpl)); clear hstep hK hM hc
        have T' : Hid ((done ++ [byteOf (k + done.length)]) ++ markB (k + (done.length + 1 : Nat)) (l.drop (done.length + 1)) = markB k l) := by
          show _ = _
          rw [← hT.out, hdr, markB, List.append_assoc]
          simp; congr 1; omega
        have hbv := byteOf_val (k + done.length)
        have HBV := Lib.hid hbv; clear hbv
        go_wp2_with fail
        go_roundg (l.length - (done.length + 1))
        case measure => omega
        case rel =>
          refine ⟨done.length + 1, done ++ [byteOf (k + done.length)], by omega, by simp; omega, by go_num, rfl, by simp, T', ?_, HM.out.2.1.trans (Kept.set (by simp) _)⟩
          exact HM.out.1 _ (byteOf (k + done.length)) [.int .u8 ((k + done.length) % 256)] ⟨rfl, by rw [HBV.out]⟩ (cells_one (cell_set_eq _ _ _ _ _ k0)) (fun j hj => cell_set_ne _ _ _ _ _ (by omega)) (fun b _ hb _ => Below.heap_setCell _ _ _ _ hb) (fun b hb => by simp at hb; subst hb; exact HM.out.2.2.set _ _)
      · have e : done.length = l.length := by omega
        have hd : l.drop done.length = [] := by rw [e, List.drop_length]
        rw [hd] at hM
        have hfin := hT.out
        rw [hd, markB, List.append_nil] at hfin
        have HE := Lib.hid (And.intro (hM.finish (c := c) (by omega) hcm) (And.intro hM.fresh (And.intro hK hfin))); clear hM hK hfin hT hd
        go_wp2_with fail
        go_ret
        exact ⟨by rw [e]; rfl, HE.out.2.2.2 ▸ HE.out.1, HE.out.2.1, HE.out.2.2.1⟩

theorem markStepS_any (l : List GStep) (k : Int) (F : List Nat) (A : Option Addr) (c base : Nat) (w : World) (hk : 0 ≤ k) (hk2 : k + 2 * l.length ≤ 1000000000000000) (h : SlR w F l A c) (hF : Fresh base w F) :
    Calls Try.prog 80 #[.slice A l.length c, .int .i64 k] w (RetM base w F (markSt k l) A c (k + 2 * l.length)) := by
  have hlc := h.1; have hcm := h.2.1
  by_cases hl : l.length = 0
  · have hln := List.eq_nil_of_length_eq_zero hl
    subst hln
    have E := Lib.hid (And.intro h hF); clear h hF
    go_enter Try.func80, Try.ntmps80
    go_wp2_with fail
    go_loopg [1, 5] 0 (fun gk kk i wr => kk = .int .i64 k ∧ i = .int .i64 0 ∧ wr = w)
    case atStart => exact ⟨rfl, rfl, rfl⟩
    case round =>
      obtain ⟨rfl, rfl, rfl⟩ := hrel
      go_wp2_with fail
      go_ret
      exact ⟨by simp, E.out.1, E.out.2, Kept.refl _ _⟩
  · obtain ⟨g, off, F', rfl, rfl⟩ := h.plain_block (by omega)
    have M0 := Lib.hid (MarkS.start h hF)
    have hlm : l.length ≤ 9223372036854775807 := by omega
    clear h hF
    go_enter Try.func80, Try.ntmps80
    go_wp2_with fail
    go_loopg [1, 5] l.length (fun gk kk i wr => ∃ (n : Nat) (done : List GStep), n ≤ l.length ∧ kk = .int .i64 (k + 2 * n) ∧ i = .int .i64 n ∧ gk = l.length - n ∧ done.length = n ∧ Hid (done ++ markSt (k + 2 * n) (l.drop n) = markSt k l) ∧ MarkS base g off done (l.drop n) F' wr ∧ Kept (g :: F') w wr)
    case atStart => exact ⟨0, [], by omega, by simp, rfl, by omega, rfl, by simp [Hid], M0.out, Kept.refl _ _⟩
    case round =>
      obtain ⟨n, done, hn, rfl, rfl, rfl, hdl, hT, hM, hK⟩ := hrel
      subst hdl
      by_cases hlt : done.length < l.length
      · have hdr : l.drop done.length = l[done.length] :: l.drop (done.length + 1) := List.drop_eq_getElem_cons hlt
        rw [hdr] at hM
        have hpl := (hM.fresh.2 g (by simp)).2
        obtain ⟨Fa, cs, ⟨rfl, rfl, hI0⟩, hc, _, _, _, hstep⟩ := hM.head
        have k0 := hc.c0
        have k1 := hc.c1
        simp only [Rep.wd] at k0 k1 hstep
        have f0 := hpl.frozen (off + done.length * 2)
        have f1 := hpl.frozen (off + done.length * 2 + 1)
        have HM := Lib.hid (And.intro hstep (And.intro hK hpl)); clear hstep hK hM hc hI0
        have T' : Hid ((done ++ [(⟨k + 2 * done.length, (k + 2 * done.length + 1) % 3 == 0⟩ : GStep)]) ++ markSt (k + 2 * (done.length + 1 : Nat)) (l.drop (done.length + 1)) = markSt k l) := by
          show _ = _
          rw [← hT.out, hdr, markSt, List.append_assoc]
          simp; congr 1; omega
        go_wp2_with fail
        go_roundg (l.length - (done.length + 1))
        case measure => omega
        case rel =>
          refine ⟨done.length + 1, done ++ [(⟨k + 2 * done.length, (k + 2 * done.length + 1) % 3 == 0⟩ : GStep)], by omega, by simp; omega, by go_num, rfl, by simp, T', ?_, HM.out.2.1.trans ((Kept.set (by simp) _).trans (Kept.set (by simp) _))⟩
          exact HM.out.1 _ ⟨k + 2 * done.length, (k + 2 * done.length + 1) % 3 == 0⟩ [.int .i64 (k + 2 * done.length), .bool ((k + 2 * done.length + 1) % 3 == 0)] ⟨rfl, rfl, by constructor <;> (simp; omega)⟩
            (cells_two ((cell_set_ne _ _ _ _ _ (by omega)).trans (cell_set_eq _ _ _ _ _ k0)) (cell_set_eq _ _ _ _ _ ((cell_set_ne _ _ _ _ _ (by omega)).trans k1)))
            (fun j hj => (cell_set_ne _ _ _ _ _ (by omega)).trans (cell_set_ne _ _ _ _ _ (by omega))) (fun b _ hb _ => (Below.heap_setCell _ _ _ _ hb).trans (Below.heap_setCell _ _ _ _ hb)) (fun b hb => by simp at hb; subst hb; exact (HM.out.2.2.set _ _).set _ _)
      · have e : done.length = l.length := by omega
        have hd : l.drop done.length = [] := by rw [e, List.drop_length]
        rw [hd] at hM
        have hfin := hT.out
        rw [hd, markSt, List.append_nil] at hfin
        have HE := Lib.hid (And.intro (hM.finish (c := c) (by omega) hcm) (And.intro hM.fresh (And.intro hK hfin))); clear hM hK hfin hT hd
        go_wp2_with fail
        go_ret
        exact ⟨by rw [e]; rfl, HE.out.2.2.2 ▸ HE.out.1, HE.out.2.1, HE.out.2.2.1⟩

theorem cntL_cons (x : GLoss) (l : List GLoss) : cntL (x :: l) = 1 + 2 * x.p.length + cntL l := by simp [cntL]
theorem markLossS_any (l : List GLoss) (k : Int) (F : List Nat) (A : Option Addr) (c base : Nat) (w : World) (hk : 0 ≤ k) (hk2 : k + cntL l ≤ 1000000000000000) (hn4 : l.length ≤ 4194304) (h : SlR w F l A c) (hF : Fresh base w F) :
    Calls Try.prog 70 #[.slice A l.length c, .int .i64 k] w (RetM base w F (markL k l) A c (k + cntL l)) := by
  have hlc := h.1; have hcm := h.2.1
  by_cases hl : l.length = 0
  · have hln := List.eq_nil_of_length_eq_zero hl
    subst hln
    have E := Lib.hid (And.intro h hF); clear h hF
    go_enter Try.func70, Try.ntmps70
    go_wp2_with fail
    go_loopg [1, 5] 0 (fun gk kk i wr => kk = .int .i64 k ∧ i = .int .i64 0 ∧ wr = w)
    case atStart => exact ⟨rfl, rfl, rfl⟩
    case round =>
      obtain ⟨rfl, rfl, rfl⟩ := hrel
      go_wp2_with fail
      go_ret
      exact ⟨by simp [cntL], E.out.1, E.out.2, Kept.refl _ _⟩
  · obtain ⟨g, off, F', rfl, rfl⟩ := h.plain_block (by omega)
    have M0 := Lib.hid (MarkS.start h hF)
    have hlm : l.length ≤ 9223372036854775807 := by omega
    clear h hF
    obtain ⟨tot, htot⟩ : ∃ tot : Int, tot = k + cntL l := ⟨_, rfl⟩
    rw [← htot] at hk2 ⊢
    have TT := Lib.hid htot; clear htot
    go_enter Try.func70, Try.ntmps70
    go_wp2_with fail
    go_loopg [1, 5] l.length (fun gk kk i wr => ∃ (n : Nat) (kc : Int) (done : List GLoss), n ≤ l.length ∧ kk = .int .i64 kc ∧ 0 ≤ kc ∧ i = .int .i64 n ∧ gk = l.length - n ∧ done.length = n ∧ Hid (done ++ markL kc (l.drop n) = markL k l ∧ kc + cntL (l.drop n) = tot) ∧ MarkS base g off done (l.drop n) F' wr ∧ Kept (g :: F') w wr)
    case atStart => exact ⟨0, k, [], by omega, rfl, hk, rfl, by omega, rfl, ⟨rfl, TT.out.symm⟩, M0.out, Kept.refl _ _⟩
    case round =>
      obtain ⟨n, kc, done, hn, rfl, hkc, rfl, rfl, hdl, hT, hM, hK⟩ := hrel
      subst hdl
      by_cases hlt : done.length < l.length
      · have hdr : l.drop done.length = l[done.length] :: l.drop (done.length + 1) := List.drop_eq_getElem_cons hlt
        rw [hdr] at hM
        have hpl := (hM.fresh.2 g (by simp)).2
        obtain ⟨Fa, cs, ⟨A1, c1, rfl, hI0, hs1⟩, hc, hsub, hg, hfa, hstep⟩ := hM.head
        have k0 := hc.c0
        have k1 := hc.c1
        simp only [Rep.wd] at k0 k1 hstep
        have f0 := hpl.frozen (off + done.length * 2)
        have f1 := hpl.frozen (off + done.length * 2 + 1)
        have hT1 := hT.out
        rw [hdr, markL, cntL_cons] at hT1
        have hk3 : kc + 1 + 2 * l[done.length].p.length ≤ tot := by have := hT1.2; omega
        have HT1 := Lib.hid hT1; clear hT1
        have HM := Lib.hid (And.intro hstep (And.intro hK hpl)); clear hstep hK hM hc hI0
        have HS := Lib.hid (And.intro hs1 (And.intro hfa (And.intro hg hsub))); clear hs1 hfa hg hsub
        go_wp2_with fail
        have hkeep : ∀ b, b ∈ Fa → (wr.setCell ⟨g, off + done.length * 2, none⟩ (.int .i64 kc)).heap[b]? = wr.heap[b]? := fun b hb => Below.heap_setCell _ _ _ _ (fun e => HS.out.2.2.1 (by rw [← show b = g from e]; exact hb))
        refine (markStepS_any l[done.length].p (kc + 1) Fa A1 c1 base _ (by omega) (by omega) (HS.out.1.keep hkeep) (HS.out.2.1.keep hkeep)).mono ?_
        rintro e w2 ⟨rfl, hs2, hf2, hk2'⟩
        have HR := Lib.hid (And.intro hs2 (And.intro hf2 hk2')); clear hs2 hf2 hk2' hkeep
        go_wp2_with fail
        go_roundg (l.length - (done.length + 1))
        case measure => omega
        case rel =>
          have hlg : g < wr.heap.size := HM.out.2.2.lt
          have hbg : w2.heap[g]? = (wr.setCell ⟨g, off + done.length * 2, none⟩ (.int .i64 kc)).heap[g]? := HR.out.2.2.2.2.2.2 g (by simpa [World.setCell] using hlg) HS.out.2.2.1
          have hcg : ∀ j, w2.cell? ⟨g, j, none⟩ = (wr.setCell ⟨g, off + done.length * 2, none⟩ (.int .i64 kc)).cell? ⟨g, j, none⟩ := fun j => World.cell?_of_block (a := ⟨g, j, none⟩) hbg
          have hms := markSt_len l[done.length].p (kc + 1)
          refine ⟨done.length + 1, kc + 1 + 2 * l[done.length].p.length, done ++ [(⟨kc, markSt (kc + 1) l[done.length].p⟩ : GLoss)], by omega, rfl, by omega, by go_num, rfl, by simp, ⟨?_, ?_⟩, ?_, ?_⟩
          · rw [← HT1.out.1, List.append_assoc]; rfl
          · have := HT1.out.2; omega
          · refine HM.out.1 _ ⟨kc, markSt (kc + 1) l[done.length].p⟩ [.int .i64 kc, .slice A1 l[done.length].p.length c1] ⟨A1, c1, by simp [hms], by constructor <;> (simp; omega), HR.out.1⟩ (cells_two ?_ ?_) ?_ ?_ ?_
            · rw [hcg]; exact cell_set_eq _ _ _ _ _ k0
            · rw [hcg]; exact (cell_set_ne _ _ _ _ _ (by omega)).trans k1
            · intro j hj; rw [hcg]; exact cell_set_ne _ _ _ _ _ (by omega)
            · intro b hb hbg hba
              exact (HR.out.2.2.2.2.2.2 b (by simpa [World.setCell] using hb) hba).trans (Below.heap_setCell _ _ _ _ hbg)
            · intro b hb
              rcases List.mem_cons.1 hb with rfl | hb
              · exact (HM.out.2.2.set ⟨b, off + done.length * 2, none⟩ (.int .i64 kc)).keep hbg
              · exact (HR.out.2.1.2 b hb).2
          · exact HM.out.2.1.trans ((Kept.set (by simp) _).trans (HR.out.2.2.mono fun b hb => List.mem_cons_of_mem _ (HS.out.2.2.2 b hb)))
      · have e : done.length = l.length := by omega
        have hd : l.drop done.length = [] := by rw [e, List.drop_length]
        rw [hd] at hM
        have hfin := hT.out
        rw [hd, markL, List.append_nil] at hfin
        have htt : kc = tot := by have := hfin.2; simpa [cntL] using this
        subst htt
        have HE := Lib.hid (And.intro (hM.finish (c := c) (by omega) hcm) (And.intro hM.fresh (And.intro hK hfin.1))); clear hM hK hfin hT hd
        go_wp2_with fail
        go_ret
        exact ⟨rfl, HE.out.2.2.2 ▸ HE.out.1, HE.out.2.1, HE.out.2.2.1⟩
end Go.Proofs.Ytblcmajhdndmfaa
