/- Contracts of the laws' marks: texts. -/
import Derived.Test.YtblcmajhdndmfaaMark2
import Derived.Test.YtblcmajhdndmfaaBytes
import Derived.Deep.RegionHeld3
namespace Go.Proofs.Ytblcmajhdndmfaa
open Go.RowKit
set_option linter.unusedVariables false
set_option maxRecDepth 100000

def digB (k : Int) : ByteArray := strOf [byteOf (48 + k % 10)]
def mtail : Nat → Int → ByteArray → ByteArray
  | 0, _, out => out
  | n + 1, k, out => if k ≤ 0 then out else mtail n (k / 10) (digB k ++ out)
theorem mtail_size : ∀ (n : Nat) (k : Int) (out : ByteArray), (mtail n k out).size ≤ out.size + n
  | 0, _, _ => by simp [mtail]
  | n + 1, k, out => by
    unfold mtail
    split
    · omega
    · have := mtail_size n (k / 10) (digB k ++ out)
      have e : (digB k).size = 1 := by simp [digB, strOf_size]
      rw [ByteArray.size_append] at this
      omega
def markTx (k : Int) : ByteArray := if k ≤ 0 then strOf [109, 48] else strOf [109] ++ mtail 16 k .empty
theorem markTx_size (k : Int) : (markTx k).size ≤ 20 := by
  unfold markTx
  split
  · simp [strOf_size]
  · rw [ByteArray.size_append]
    have := mtail_size 16 k .empty
    simp [strOf_size] at this ⊢
    omega

theorem markText_any (k : Int) (w : World) (hk : 0 ≤ k) (hk2 : k ≤ 2000000000000000) :
    Calls Try.prog 64 #[.int .i64 k] w (Ret w (.string (markTx k))) := by
  obtain ⟨r, hr⟩ : ∃ r, r = markTx k := ⟨_, rfl⟩
  rw [← hr]
  unfold markTx at hr
  by_cases h0 : k ≤ 0
  · rw [if_pos h0] at hr
    have R := Lib.hid hr; clear hr
    go_enter Try.func64, Try.ntmps64
    go_wp2_with fail
    go_ret
    exact ⟨by rw [R.out]; rfl, bRf w⟩
  · rw [if_neg h0] at hr
    have R := Lib.hid hr; clear hr
    go_enter Try.func64, Try.ntmps64
    go_wp2_with fail
    go_loopg [0, 3] 16 (fun gk kk oo wr => ∃ (kc : Int) (o : ByteArray), kk = .int .i64 kc ∧ oo = .string o ∧ 0 ≤ kc ∧ kc ≤ 2000000000000000 ∧ Hid (kc < 10 ^ gk ∧ o.size + gk ≤ 20) ∧ Hid (mtail gk kc o = mtail 16 k .empty) ∧ Below w.heap.size w wr)
    case atStart => exact ⟨k, .empty, rfl, rfl, hk, hk2, ⟨by omega, by simp⟩, rfl, bRf w⟩
    case round =>
      obtain ⟨kc, o, rfl, rfl, hk0, hk1, hG, hT, hbel⟩ := hrel
      by_cases hlt : kc ≤ 0
      · have he : o = mtail 16 k .empty := by
          have := hT.out
          cases gk with
          | zero => exact this
          | succ m => rw [mtail, if_pos hlt] at this; exact this
        have HE := Lib.hid he; clear he
        have hz : o.size ≤ 20 := by have := hG.out.2; omega
        have hz2 : ¬ (9223372036854775807 < 1 + o.size) := by omega
        go_wp2_with fail
        go_ret
        exact ⟨by rw [R.out, HE.out]; rfl, hbel⟩
      · obtain ⟨m, rfl⟩ : ∃ m, gk = m + 1 := by
          cases gk with
          | zero => have := hG.out.1; simp at this; omega
          | succ m => exact ⟨m, rfl⟩
        have hT1 := hT.out
        rw [mtail, if_neg hlt] at hT1
        have HT := Lib.hid hT1; clear hT1
        have hs : SA (wr.alloc (.cells #[.int .u8 (48 + kc % 10)] 5)) [byteOf (48 + kc % 10)] (some ⟨wr.heap.size, 0, none⟩) 1 := by
          have := (OwnF.lit1 (RF.byte (base := wr.heap.size) (w := wr) (byteOf (48 + kc % 10))) 5 (Nat.le_refl _)).sf.2.sa
          rw [byteOf_val, Int.emod_eq_of_lt (by omega) (by omega)] at this
          exact this
        have hcv := run_str_of_bytes (P := Try.prog) Try.underlying22 Try.underlying5 Try.underlying9 hs
        rw [List.length_singleton] at hcv
        have hds : strOf [byteOf (48 + kc % 10)] = digB kc := rfl
        rw [hds] at hcv
        clear hs hds
        have hsz : (digB kc).size = 1 := by simp [digB, strOf_size]
        have HG : Hid (kc / 10 < 10 ^ m ∧ (digB kc ++ o).size + m ≤ 20) := by
          refine ⟨?_, ?_⟩
          · have := hG.out.1
            rw [Int.pow_succ] at this
            exact Int.ediv_lt_of_lt_mul (by omega) this
          · rw [ByteArray.size_append, hsz]; have := hG.out.2; omega
        have hz : o.size ≤ 20 := by have := hG.out.2; omega
        have hz2 : ¬ (9223372036854775807 < (digB kc).size + o.size) := by omega
        have hb2 : Below w.heap.size w (wr.alloc (.cells #[.int .u8 (48 + kc % 10)] 5)) := bAl hbel _
        have HB := Lib.hid hb2; clear hb2
        go_wp2_with fail
        go_roundg m
        case measure => omega
        case rel => exact ⟨kc / 10, _, rfl, rfl, by omega, by omega, HG, HT, HB.out⟩

def markS : Int → List ByteArray → List ByteArray
  | _, [] => []
  | k, _ :: l => markTx k :: markS (k + 1) l
theorem markS_len : ∀ (l : List ByteArray) (k : Int), (markS k l).length = l.length
  | [], _ => rfl
  | _ :: l, k => by simp [markS, markS_len l]

theorem markStringS_any (l : List ByteArray) (k : Int) (F : List Nat) (A : Option Addr) (c base : Nat) (w : World) (hk : 0 ≤ k) (hk2 : k + l.length ≤ 1000000000000000) (h : SlR w F l A c) (hF : Fresh base w F) :
    Calls Try.prog 25 #[.slice A l.length c, .int .i64 k] w (RetM base w F (markS k l) A c (k + l.length)) := by
  have hlc := h.1; have hcm := h.2.1
  by_cases hl : l.length = 0
  · have hln := List.eq_nil_of_length_eq_zero hl
    subst hln
    have E := Lib.hid (And.intro h hF); clear h hF
    go_enter Try.func25, Try.ntmps25
    go_wp2_with fail
    go_loopg [1, 5] 0 (fun gk kk i wr => kk = .int .i64 k ∧ i = .int .i64 0 ∧ wr = w)
    case atStart => exact ⟨rfl, rfl, rfl⟩
    case round =>
      obtain ⟨rfl, rfl, rfl⟩ := hrel
      go_wp2_with fail
      go_ret
      exact ⟨by simp, E.out.1, E.out.2, Kept.refl _ _⟩
  · obtain ⟨g, off, F', rfl, rfl⟩ := h.plain_block (by omega)
    have M0 := Lib.hid (MarkS.start h hF)
    have hlm : l.length ≤ 9223372036854775807 := by omega
    clear h hF
    go_enter Try.func25, Try.ntmps25
    go_wp2_with fail
    go_loopg [1, 5] l.length (fun gk kk i wr => ∃ (n : Nat) (done : List ByteArray), n ≤ l.length ∧ kk = .int .i64 (k + n) ∧ i = .int .i64 n ∧ gk = l.length - n ∧ done.length = n ∧ Hid (done ++ markS (k + n) (l.drop n) = markS k l) ∧ MarkS base g off done (l.drop n) F' wr ∧ Kept (g :: F') w wr)
    case atStart => exact ⟨0, [], by omega, by simp, rfl, by omega, rfl, by simp [Hid], M0.out, Kept.refl _ _⟩
    case round =>
      obtain ⟨n, done, hn, rfl, rfl, rfl, hdl, hT, hM, hK⟩ := hrel
      subst hdl
      by_cases hlt : done.length < l.length
      · have hdr : l.drop done.length = l[done.length] :: l.drop (done.length + 1) := List.drop_eq_getElem_cons hlt
        rw [hdr] at hM
        have HM0 := Lib.hid (And.intro hM hK); clear hM hK
        have T' : Hid ((done ++ [markTx (k + done.length)]) ++ markS (k + (done.length + 1 : Nat)) (l.drop (done.length + 1)) = markS k l) := by
          show _ = _
          rw [← hT.out, hdr, markS, List.append_assoc]
          simp; congr 1; omega
        go_wp2_with fail
        refine (markText_any (k + done.length) wr (by omega) (by omega)).mono ?_
        rintro e w1 ⟨rfl, hb1⟩
        have hM := HM0.out.1.below hb1
        have hpl := (hM.fresh.2 g (by simp)).2
        obtain ⟨Fa, cs, ⟨rfl, rfl, hI0⟩, hc, _, _, _, hstep⟩ := hM.head
        have k0 := hc.c0
        simp only [Rep.wd, Nat.mul_one] at k0 hstep
        have f0 := hpl.frozen (off + done.length)
        have HM := Lib.hid (And.intro hstep (And.intro (HM0.out.2.trans (Kept.of_below hb1)) hpl)); clear hstep hM hc hI0 hb1
        go_wp2_with fail
        go_roundg (l.length - (done.length + 1))
        case measure => omega
        case rel =>
          refine ⟨done.length + 1, done ++ [markTx (k + done.length)], by omega, by simp; omega, by go_num, rfl, by simp, T', ?_, HM.out.2.1.trans (Kept.set (by simp) _)⟩
          exact HM.out.1 _ (markTx (k + done.length)) [.string (markTx (k + done.length))] ⟨rfl, rfl, by have := markTx_size (k + done.length); unfold maxLen; omega⟩ (cells_one (cell_set_eq _ _ _ _ _ k0)) (fun j hj => cell_set_ne _ _ _ _ _ (by omega)) (fun b _ hb _ => Below.heap_setCell _ _ _ _ hb) (fun b hb => by simp at hb; subst hb; exact HM.out.2.2.set _ _)
      · have e : done.length = l.length := by omega
        have hd : l.drop done.length = [] := by rw [e, List.drop_length]
        rw [hd] at hM
        have hfin := hT.out
        rw [hd, markS, List.append_nil] at hfin
        have HE := Lib.hid (And.intro (hM.finish (c := c) (by omega) hcm) (And.intro hM.fresh (And.intro hK hfin))); clear hM hK hfin hT hd
        go_wp2_with fail
        go_ret
        exact ⟨by rw [e]; rfl, HE.out.2.2.2 ▸ HE.out.1, HE.out.2.1, HE.out.2.2.1⟩

theorem heldStringS_any (l : List ByteArray) (k : Int) (A : Option Addr) (c : Nat) (w : World) (hk : 0 ≤ k) (hk2 : k + l.length ≤ 1000000000000000) (h : SA w (markS k l) A c) :
    Calls Try.prog 26 #[.slice A l.length c, .int .i64 k] w (Ret w (.int .i64 (k + l.length))) := by
  have E := Lib.hid h; clear h
  have hlen := markS_len l k
  have hlm : l.length ≤ 9223372036854775807 := by omega
  have HL := Lib.hid hlen; clear hlen
  go_enter Try.func26, Try.ntmps26
  go_wp2_with fail
  go_loopg [1, 5] l.length (fun gk kk i wr => ∃ n : Nat, n ≤ l.length ∧ kk = .int .i64 (k + n) ∧ i = .int .i64 n ∧ gk = l.length - n ∧ Hid ((markS k l).drop n = markS (k + n) (l.drop n)) ∧ Below w.heap.size w wr)
  case atStart => exact ⟨0, by omega, by simp, rfl, by omega, by simp [Hid], bRf w⟩
  case round =>
    obtain ⟨n, hn, rfl, rfl, rfl, hT, hbel⟩ := hrel
    by_cases hlt : n < l.length
    · have hlt' : n < (markS k l).length := by rw [HL.out]; exact hlt
      have hT1 := hT.out
      rw [List.drop_eq_getElem_cons hlt', List.drop_eq_getElem_cons hlt, markS] at hT1
      injection hT1 with hT2 hT3
      have HT3 := Lib.hid hT3; clear hT3
      obtain ⟨b, off, rfl, hb, hI, k0⟩ := (E.out.below hbel).str_at hlt'
      rw [hT2] at k0
      have HT2 := Lib.hid hT2; clear hT2 hI
      have hi1 : (n : Int) < l.length := by omega
      have hi3 : (0 : Int) ≤ n := by omega
      have hne : ((markTx (k + n)).toList == (markTx (k + n)).toList) = true := by simp
      go_wp2_with fail
      go_region_held3 (fun u => u.cell? ⟨b, off + n, none⟩ = some (.string (markTx (k + n)))) (go_keep)
        (first | (go_at_call 64; (refine (markText_any (k + n) _ (by omega) (by omega)).mono ?_; rintro e w1 ⟨rfl, hb1⟩; have HB1 := Lib.hid (bTr hbel.drew hb1); have k1 := (hb1.cell (p := ⟨b, off + n, none⟩) hb).trans k0; clear hb1)))
      go_wp2_with fail
      go_roundg (l.length - (n + 1))
      case measure => omega
      case rel => exact ⟨n + 1, by omega, by simp; omega, by go_num, rfl, by show _ = _; rw [HT3.out]; congr 1; (simp; omega), HB1.out⟩
    · have e : n = l.length := by omega
      subst e
      go_wp2_with fail
      go_ret
      exact ⟨rfl, hbel⟩
end Go.Proofs.Ytblcmajhdndmfaa
