/- Contracts of the laws' marks: numbers, paths. -/
import Derived.Test.YtblcmajhdndmfaaHeldC
import Derived.Test.YtblcmajhdndmfaaFind
namespace Go.Proofs.Ytblcmajhdndmfaa
open Go.RowKit
set_option linter.unusedVariables false
set_option maxRecDepth 100000

def markI : Int → List Int → List Int
  | _, [] => []
  | k, _ :: l => k :: markI (k + 1) l
def markP : Int → List (List GStep) → List (List GStep)
  | _, [] => []
  | k, x :: l => markSt k x :: markP (k + 2 * x.length) l
def cntP (l : List (List GStep)) : Nat := (l.map fun x => 2 * x.length).sum
theorem markI_len : ∀ (l : List Int) (k : Int), (markI k l).length = l.length
  | [], _ => rfl
  | _ :: l, k => by simp [markI, markI_len l]
theorem markP_len : ∀ (l : List (List GStep)) (k : Int), (markP k l).length = l.length
  | [], _ => rfl
  | _ :: l, k => by simp [markP, markP_len l]
theorem cntP_cons (x : List GStep) (l : List (List GStep)) : cntP (x :: l) = 2 * x.length + cntP l := by simp [cntP]

theorem markIntS_any (l : List Int) (k : Int) (F : List Nat) (A : Option Addr) (c base : Nat) (w : World) (hk : 0 ≤ k) (hk2 : k + l.length ≤ 1000000000000000) (h : SlR w F l A c) (hF : Fresh base w F) :
    Calls Try.prog 41 #[.slice A l.length c, .int .i64 k] w (RetM base w F (markI k l) A c (k + l.length)) := by
  have hlc := h.1; have hcm := h.2.1
  by_cases hl : l.length = 0
  · have hln := List.eq_nil_of_length_eq_zero hl
    subst hln
    have E := Lib.hid (And.intro h hF); clear h hF
    go_enter Try.func41, Try.ntmps41
    go_wp2_with fail
    go_loopg [1, 5] 0 (fun gk kk i wr => kk = .int .i64 k ∧ i = .int .i64 0 ∧ wr = w)
    case atStart => exact ⟨rfl, rfl, rfl⟩
    case round =>
      obtain ⟨rfl, rfl, rfl⟩ := hrel
      go_wp2_with fail
      go_ret
      exact ⟨by simp, E.out.1, E.out.2, Kept.refl _ _⟩
  · obtain ⟨g, off, F', rfl, rfl⟩ := h.plain_block (by omega)
    have M0 := Lib.hid (MarkS.start h hF)
    have hlm : l.length ≤ 9223372036854775807 := by omega
    clear h hF
    go_enter Try.func41, Try.ntmps41
    go_wp2_with fail
    go_loopg [1, 5] l.length (fun gk kk i wr => ∃ (n : Nat) (done : List Int), n ≤ l.length ∧ kk = .int .i64 (k + n) ∧ i = .int .i64 n ∧ gk = l.length - n ∧ done.length = n ∧ Hid (done ++ markI (k + n) (l.drop n) = markI k l) ∧ MarkS base g off done (l.drop n) F' wr ∧ Kept (g :: F') w wr)
    case atStart => exact ⟨0, [], by omega, by simp, rfl, by omega, rfl, by simp [Hid], M0.out, Kept.refl _ _⟩
    case round =>
      obtain ⟨n, done, hn, rfl, rfl, rfl, hdl, hT, hM, hK⟩ := hrel
      subst hdl
      by_cases hlt : done.length < l.length
      · have hdr : l.drop done.length = l[done.length] :: l.drop (done.length + 1) := List.drop_eq_getElem_cons hlt
        rw [hdr] at hM
        have hpl := (hM.fresh.2 g (by simp)).2
        obtain ⟨Fa, cs, ⟨rfl, rfl, hI0⟩, hc, _, _, _, hstep⟩ := hM.head
        have k0 := hc.c0
        simp only [Rep.wd, Nat.mul_one] at k0 hstep
        have f0 := hpl.frozen (off + done.length)
        have HM := Lib.hid (And.intro hstep (And.intro hK hpl)); clear hstep hK hM hc hI0
        have T' : Hid ((done ++ [(k + done.length : Int)]) ++ markI (k + (done.length + 1 : Nat)) (l.drop (done.length + 1)) = markI k l) := by
          show _ = _
          rw [← hT.out, hdr, markI, List.append_assoc]
          simp; congr 1; omega
        go_wp2_with fail
        go_roundg (l.length - (done.length + 1))
        case measure => omega
        case rel =>
          refine ⟨done.length + 1, done ++ [(k + done.length : Int)], by omega, by simp; omega, by go_num, rfl, by simp, T', ?_, HM.out.2.1.trans (Kept.set (by simp) _)⟩
          exact HM.out.1 _ (k + done.length : Int) [.int .i64 (k + done.length)] ⟨rfl, rfl, by constructor <;> omega⟩ (cells_one (cell_set_eq _ _ _ _ _ k0)) (fun j hj => cell_set_ne _ _ _ _ _ (by omega)) (fun b _ hb _ => Below.heap_setCell _ _ _ _ hb) (fun b hb => by simp at hb; subst hb; exact HM.out.2.2.set _ _)
      · have e : done.length = l.length := by omega
        have hd : l.drop done.length = [] := by rw [e, List.drop_length]
        rw [hd] at hM
        have hfin := hT.out
        rw [hd, markI, List.append_nil] at hfin
        have HE := Lib.hid (And.intro (hM.finish (c := c) (by omega) hcm) (And.intro hM.fresh (And.intro hK hfin))); clear hM hK hfin hT hd
        go_wp2_with fail
        go_ret
        exact ⟨by rw [e]; rfl, HE.out.2.2.2 ▸ HE.out.1, HE.out.2.1, HE.out.2.2.1⟩

theorem heldIntS_any (l : List Int) (k : Int) (A : Option Addr) (c : Nat) (w : World) (hk : 0 ≤ k) (hk2 : k + l.length ≤ 1000000000000000) (h : SA w (markI k l) A c) :
    Calls Try.prog 42 #[.slice A l.length c, .int .i64 k] w (Ret w (.int .i64 (k + l.length))) := by
  have E := Lib.hid h; clear h
  have hlen := markI_len l k
  have hlm : l.length ≤ 9223372036854775807 := by omega
  have HL := Lib.hid hlen; clear hlen
  go_enter Try.func42, Try.ntmps42
  go_wp2_with fail
  go_loopg [1, 5] l.length (fun gk kk i wr => ∃ n : Nat, n ≤ l.length ∧ kk = .int .i64 (k + n) ∧ i = .int .i64 n ∧ gk = l.length - n ∧ Hid ((markI k l).drop n = markI (k + n) (l.drop n)) ∧ Below w.heap.size w wr)
  case atStart => exact ⟨0, by omega, by simp, rfl, by omega, by simp [Hid], bRf w⟩
  case round =>
    obtain ⟨n, hn, rfl, rfl, rfl, hT, hbel⟩ := hrel
    by_cases hlt : n < l.length
    · have hlt' : n < (markI k l).length := by rw [HL.out]; exact hlt
      have hT1 := hT.out
      rw [List.drop_eq_getElem_cons hlt', List.drop_eq_getElem_cons hlt, markI] at hT1
      injection hT1 with hT2 hT3
      have HT3 := Lib.hid hT3; clear hT3
      obtain ⟨b, off, rfl, hb, hI, k0⟩ := (E.out.below hbel).int_at hlt'
      rw [hT2] at k0
      have HT2 := Lib.hid hT2; clear hT2 hI
      have hi1 : (n : Int) < l.length := by omega
      have hi3 : (0 : Int) ≤ n := by omega
      go_wp2_with fail
      · go_roundg (l.length - (n + 1))
        case measure => omega
        case rel => exact ⟨n + 1, by omega, by simp; omega, by go_num, rfl, by show _ = _; rw [HT3.out]; congr 1; (simp; omega), hbel⟩
    · have e : n = l.length := by omega
      subst e
      go_wp2_with fail
      go_ret
      exact ⟨rfl, hbel⟩

theorem markPathS_any (l : List (List GStep)) (k : Int) (F : List Nat) (A : Option Addr) (c base : Nat) (w : World) (hk : 0 ≤ k) (hk2 : k + cntP l ≤ 1000000000000000) (hn4 : l.length ≤ 4194304) (hs4 : ∀ x, x ∈ l → x.length ≤ 4194304) (h : SlR w F l A c) (hF : Fresh base w F) :
    Calls Try.prog 36 #[.slice A l.length c, .int .i64 k] w (RetM base w F (markP k l) A c (k + cntP l)) := by
  have hlc := h.1; have hcm := h.2.1
  by_cases hl : l.length = 0
  · have hln := List.eq_nil_of_length_eq_zero hl
    subst hln
    have E := Lib.hid (And.intro h hF); clear h hF
    go_enter Try.func36, Try.ntmps36
    go_wp2_with fail
    go_loopg [1, 5] 0 (fun gk kk i wr => kk = .int .i64 k ∧ i = .int .i64 0 ∧ wr = w)
    case atStart => exact ⟨rfl, rfl, rfl⟩
    case round =>
      obtain ⟨rfl, rfl, rfl⟩ := hrel
      go_wp2_with fail
      go_ret
      exact ⟨by simp [cntP], E.out.1, E.out.2, Kept.refl _ _⟩
  · obtain ⟨g, off, F', rfl, rfl⟩ := h.plain_block (by omega)
    have M0 := Lib.hid (MarkS.start h hF)
    have hlm : l.length ≤ 9223372036854775807 := by omega
    clear h hF
    obtain ⟨tot, htot⟩ : ∃ tot : Int, tot = k + cntP l := ⟨_, rfl⟩
    rw [← htot] at hk2 ⊢
    have TT := Lib.hid htot; clear htot
    go_enter Try.func36, Try.ntmps36
    go_wp2_with fail
    go_loopg [1, 5] l.length (fun gk kk i wr => ∃ (n : Nat) (kc : Int) (done : List (List GStep)), n ≤ l.length ∧ kk = .int .i64 kc ∧ 0 ≤ kc ∧ i = .int .i64 n ∧ gk = l.length - n ∧ done.length = n ∧ Hid (done ++ markP kc (l.drop n) = markP k l ∧ kc + cntP (l.drop n) = tot) ∧ MarkS base g off done (l.drop n) F' wr ∧ Kept (g :: F') w wr)
    case atStart => exact ⟨0, k, [], by omega, rfl, hk, rfl, by omega, rfl, ⟨rfl, TT.out.symm⟩, M0.out, Kept.refl _ _⟩
    case round =>
      obtain ⟨n, kc, done, hn, rfl, hkc, rfl, rfl, hdl, hT, hM, hK⟩ := hrel
      subst hdl
      by_cases hlt : done.length < l.length
      · have hdr : l.drop done.length = l[done.length] :: l.drop (done.length + 1) := List.drop_eq_getElem_cons hlt
        rw [hdr] at hM
        have hpl := (hM.fresh.2 g (by simp)).2
        obtain ⟨Fa, cs, ⟨A1, c1, rfl, hs1⟩, hc, hsub, hg, hfa, hstep⟩ := hM.head
        have k0 := hc.c0
        simp only [Rep.wd, Nat.mul_one] at k0 hstep
        have hT1 := hT.out
        rw [hdr, markP, cntP_cons] at hT1
        have hk3 : kc + 2 * l[done.length].length ≤ tot := by have := hT1.2; omega
        have hk4 : l[done.length].length ≤ 4194304 := hs4 _ (List.getElem_mem hlt)
        have HT1 := Lib.hid hT1; clear hT1
        have HM := Lib.hid (And.intro hstep (And.intro hK hpl)); clear hstep hK hM hc
        have HS := Lib.hid (And.intro hs1 (And.intro hfa (And.intro hg hsub))); clear hs1 hfa hg hsub
        have hgl := HM.out.2.2.lt
        go_wp2_with fail
        refine (markStepS_any l[done.length] kc Fa A1 c1 base _ (by omega) (by omega) HS.out.1 HS.out.2.1).mono ?_
        rintro e w2 ⟨rfl, hs2, hf2, hk2'⟩
        have HR := Lib.hid (And.intro hs2 (And.intro hf2 hk2')); clear hs2 hf2 hk2'
        go_wp2_with fail
        go_roundg (l.length - (done.length + 1))
        case measure => omega
        case rel =>
          have hbg : w2.heap[g]? = wr.heap[g]? := HR.out.2.2.2.2.2.2 g hgl HS.out.2.2.1
          have hcg : ∀ j, w2.cell? ⟨g, j, none⟩ = wr.cell? ⟨g, j, none⟩ := fun j => World.cell?_of_block (a := ⟨g, j, none⟩) hbg
          have hms := markSt_len l[done.length] kc
          refine ⟨done.length + 1, kc + 2 * l[done.length].length, done ++ [markSt kc l[done.length]], by omega, rfl, by omega, by go_num, rfl, by simp, ⟨?_, ?_⟩, ?_, ?_⟩
          · rw [← HT1.out.1, List.append_assoc]; rfl
          · have := HT1.out.2; omega
          · refine HM.out.1 _ (markSt kc l[done.length]) [.slice A1 l[done.length].length c1] ⟨A1, c1, by simp [hms], HR.out.1⟩ (cells_one ?_) ?_ ?_ ?_
            · rw [hcg]; exact k0
            · intro j hj; rw [hcg]
            · intro b hb hbg hba
              exact HR.out.2.2.2.2.2.2 b hb hba
            · intro b hb
              rcases List.mem_cons.1 hb with rfl | hb
              · exact HM.out.2.2.keep hbg
              · exact (HR.out.2.1.2 b hb).2
          · exact HM.out.2.1.trans (HR.out.2.2.mono fun b hb => List.mem_cons_of_mem _ (HS.out.2.2.2 b hb))
      · have e : done.length = l.length := by omega
        have hd : l.drop done.length = [] := by rw [e, List.drop_length]
        rw [hd] at hM
        have hfin := hT.out
        rw [hd, markP, List.append_nil] at hfin
        have htt : kc = tot := by have := hfin.2; simpa [cntP] using this
        subst htt
        have HE := Lib.hid (And.intro (hM.finish (c := c) (by omega) hcm) (And.intro hM.fresh (And.intro hK hfin.1))); clear hM hK hfin hT hd
        go_wp2_with fail
        go_ret
        exact ⟨rfl, HE.out.2.2.2 ▸ HE.out.1, HE.out.2.1, HE.out.2.2.1⟩

theorem heldPathS_any (l : List (List GStep)) (k : Int) (A : Option Addr) (c : Nat) (w : World) (hk : 0 ≤ k) (hk2 : k + cntP l ≤ 1000000000000000) (hn4 : l.length ≤ 4194304) (h : SA w (markP k l) A c) :
    Calls Try.prog 37 #[.slice A l.length c, .int .i64 k] w (Ret w (.int .i64 (k + cntP l))) := by
  obtain ⟨tot, htot⟩ : ∃ tot : Int, tot = k + cntP l := ⟨_, rfl⟩
  rw [← htot] at hk2 ⊢
  have TT := Lib.hid htot; clear htot
  have E := Lib.hid h; clear h
  have hlen := markP_len l k
  have hlm : l.length ≤ 9223372036854775807 := by omega
  have HL := Lib.hid hlen; clear hlen
  go_enter Try.func37, Try.ntmps37
  go_wp2_with fail
  go_loopg [1, 5] l.length (fun gk kk i wr => ∃ (n : Nat) (kc : Int), n ≤ l.length ∧ kk = .int .i64 kc ∧ 0 ≤ kc ∧ i = .int .i64 n ∧ gk = l.length - n ∧ Hid ((markP k l).drop n = markP kc (l.drop n) ∧ kc + cntP (l.drop n) = tot) ∧ Below w.heap.size w wr)
  case atStart => exact ⟨0, k, by omega, rfl, hk, rfl, by omega, ⟨rfl, TT.out.symm⟩, bRf w⟩
  case round =>
    obtain ⟨n, kc, hn, rfl, hkc, rfl, rfl, hT, hbel⟩ := hrel
    by_cases hlt : n < l.length
    · have hlt' : n < (markP k l).length := by rw [HL.out]; exact hlt
      have hT1 := hT.out
      rw [List.drop_eq_getElem_cons hlt', List.drop_eq_getElem_cons hlt, markP, cntP_cons] at hT1
      obtain ⟨hT1, hT4⟩ := hT1
      injection hT1 with hT2 hT3
      obtain ⟨b, off, A1, c1, rfl, hb, hs, k0⟩ := (E.out.below hbel).path_at hlt'
      rw [hT2] at k0 hs
      have hms := markSt_len l[n] kc
      rw [hms] at k0
      have hk3 : kc + 2 * l[n].length ≤ tot := by omega
      have HT := Lib.hid (And.intro hT3 hT4); clear hT2 hT3 hT4 hT hms
      have HS := Lib.hid hs; clear hs
      have hi1 : (n : Int) < l.length := by omega
      have hi3 : (0 : Int) ≤ n := by omega
      go_wp2_with fail
      refine (heldStepS_any l[n] kc A1 c1 _ (by omega) (by omega) HS.out).mono ?_
      rintro e w1 ⟨rfl, hb1⟩
      have hneg : decide (kc + 2 * (l[n].length : Int) < 0) = false := decide_eq_false (by omega)
      go_wp2_with fail
      go_roundg (l.length - (n + 1))
      case measure => omega
      case rel => exact ⟨n + 1, kc + 2 * l[n].length, by omega, rfl, by omega, by go_num, rfl, ⟨HT.out.1, by have := HT.out.2; omega⟩, bTr hbel hb1⟩
    · have e : n = l.length := by omega
      subst e
      have htt : kc = tot := by have := hT.out.2; rw [List.drop_length] at this; simpa [cntP] using this
      subst htt
      go_wp2_with fail
      go_ret
      exact ⟨rfl, hbel⟩
end Go.Proofs.Ytblcmajhdndmfaa
