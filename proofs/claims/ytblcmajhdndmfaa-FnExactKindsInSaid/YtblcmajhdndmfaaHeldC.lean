/- Contracts of the laws' marks: a marked out; what was marked is found again. -/
import Derived.Test.YtblcmajhdndmfaaMarkC
namespace Go.Proofs.Ytblcmajhdndmfaa
open Go.RowKit
set_option linter.unusedVariables false
set_option maxRecDepth 100000

theorem markOut_any (o : GOut) (k : Int) (F1 F2 : List Nat) (A A' : Option Addr) (c c' base : Nat) (w : World) (hk : 0 ≤ k) (hk2 : k + cntO o ≤ 1000000000000000) (hn4 : o.l.length ≤ 4194304) (h1 : SlR w F1 o.b A c) (h2 : SlR w F2 o.l A' c') (hF : Fresh base w (F1 ++ F2)) :
    Calls Try.prog 29 #[.agg #[.slice A o.b.length c, .slice A' o.l.length c', .int .i64 o.code], .int .i64 k] w fun e w' => e = .returned (.int .i64 (k + cntO o)) ∧ SlR w' F1 (markO k o).b A c ∧ SlR w' F2 (markO k o).l A' c' ∧ Fresh base w' (F1 ++ F2) ∧ Kept (F1 ++ F2) w w' := by
  obtain ⟨tot, htot⟩ : ∃ tot : Int, tot = k + cntO o := ⟨_, rfl⟩
  rw [← htot] at hk2 ⊢
  unfold cntO at htot
  have b0 := bAl (bRf w) (.cells #[.slice A o.b.length c, .slice A' o.l.length c', .int .i64 o.code] 30)
  have hlt : ∀ b, b ∈ F1 ++ F2 → b < w.heap.size := fun b hm => (hF.2 b hm).2.lt
  have hnd := hF.1
  rw [List.nodup_append] at hnd
  have hF1 : Fresh base (w.alloc (.cells #[.slice A o.b.length c, .slice A' o.l.length c', .int .i64 o.code] 30)) F1 := ⟨hnd.1, fun b hb => (hF.below b0).2 b (by simp [hb])⟩
  have hF2 : Fresh base (w.alloc (.cells #[.slice A o.b.length c, .slice A' o.l.length c', .int .i64 o.code] 30)) F2 := ⟨hnd.2.1, fun b hb => (hF.below b0).2 b (by simp [hb])⟩
  have hdis : ∀ b, b ∈ F2 → b ∉ F1 := fun b h2 h1 => hnd.2.2 b h1 b h2 rfl
  have E := Lib.hid (And.intro (h1.keep fun b hb => b0.block b (hlt b (by simp [hb]))) (And.intro (h2.keep fun b hb => b0.block b (hlt b (by simp [hb]))) (And.intro hF1 (And.intro hF2 hdis))))
  have HN := Lib.hid (And.intro hnd (And.intro hF hlt))
  clear h1 h2 hF hF1 hF2 hdis hlt hnd
  have B0 := Lib.hid b0; clear b0
  have TT := Lib.hid htot
  have P0 := Lib.hid (Blk.new w 30 #[.slice A o.b.length c, .slice A' o.l.length c', .int .i64 o.code])
  go_enter Try.func29, Try.ntmps29
  go_wp2_with fail
  refine (markByteS_any o.b k F1 A c base _ hk (by omega) E.out.1 E.out.2.2.1).mono ?_
  rintro e w1 ⟨rfl, hs1, hf1, hk1⟩
  have hb1 : ∀ b, b ∈ F2 → w1.heap[b]? = (w.alloc (.cells #[.slice A o.b.length c, .slice A' o.l.length c', .int .i64 o.code] 30)).heap[b]? := fun b hb => hk1.2.2.2.2 b (E.out.2.2.2.1.2 b hb).2.lt (E.out.2.2.2.2 b hb)
  have P1 : Blk w1 w.heap.size 30 #[.slice A o.b.length c, .slice A' o.l.length c', .int .i64 o.code] := (hk1.2.2.2.2 w.heap.size (by simp) (fun hm => by have := HN.out.2.2 w.heap.size (by simp [hm]); omega)).trans P0.out
  have hs2 := Lib.hid (E.out.2.1.keep hb1)
  have hf2 := Lib.hid (E.out.2.2.2.1.keep hb1)
  have HR := Lib.hid (And.intro hs1 (And.intro hf1 hk1)); clear hs1 hf1 hk1 hb1
  obtain ⟨p0, p1, p2⟩ := P1.c3
  clear P1
  go_wp2_with fail
  refine (markLossS_any o.l (k + o.b.length) F2 A' c' base w1 (by omega) (by omega) hn4 hs2.out hf2.out).mono ?_
  rintro e w2 ⟨rfl, hs3, hf3, hk3⟩
  have hb3 : ∀ b, b ∈ F1 → w2.heap[b]? = w1.heap[b]? := fun b hb => hk3.2.2.2.2 b (HR.out.2.1.2 b hb).2.lt (fun hm => E.out.2.2.2.2 b hm hb)
  have hs4 := HR.out.1.keep hb3
  have hf4 := HR.out.2.1.keep hb3
  have HE := Lib.hid (And.intro hs4 (And.intro hs3 (And.intro hf4 (And.intro hf3 hk3)))); clear hs4 hs3 hf4 hf3 hk3 hb3
  have htt : k + o.b.length + cntL o.l = tot := by have := TT.out; omega
  have HTT := Lib.hid htt; clear htt
  go_wp2_with fail
  go_ret
  refine ⟨by rw [← HTT.out]; rfl, HE.out.1, HE.out.2.1, ⟨HN.out.2.1.1, fun b hb => ?_⟩, ?_⟩
  · rcases List.mem_append.1 hb with hb | hb
    · exact HE.out.2.2.1.2 b hb
    · exact HE.out.2.2.2.1.2 b hb
  · exact (Kept.of_below B0.out).trans ((HR.out.2.2.mono fun b hb => by simp [hb]).trans (HE.out.2.2.2.2.mono fun b hb => by simp [hb]))

theorem heldByteS_any (l : List UInt8) (k : Int) (A : Option Addr) (c : Nat) (w : World) (hk : 0 ≤ k) (hk2 : k + l.length ≤ 1000000000000000) (h : SA w (markB k l) A c) :
    Calls Try.prog 71 #[.slice A l.length c, .int .i64 k] w (Ret w (.int .i64 (k + l.length))) := by
  have E := Lib.hid h; clear h
  have hlen := markB_len l k
  have hlm : l.length ≤ 9223372036854775807 := by omega
  have HL := Lib.hid hlen; clear hlen
  go_enter Try.func71, Try.ntmps71
  go_wp2_with fail
  go_loopg [1, 5] l.length (fun gk kk i wr => ∃ n : Nat, n ≤ l.length ∧ kk = .int .i64 (k + n) ∧ i = .int .i64 n ∧ gk = l.length - n ∧ Hid ((markB k l).drop n = markB (k + n) (l.drop n)) ∧ Below w.heap.size w wr)
  case atStart => exact ⟨0, by omega, by simp, rfl, by omega, by simp [Hid], bRf w⟩
  case round =>
    obtain ⟨n, hn, rfl, rfl, rfl, hT, hbel⟩ := hrel
    by_cases hlt : n < l.length
    · have hlt' : n < (markB k l).length := by rw [HL.out]; exact hlt
      have hT1 := hT.out
      rw [List.drop_eq_getElem_cons hlt', List.drop_eq_getElem_cons hlt, markB] at hT1
      injection hT1 with hT2 hT3
      have HT3 := Lib.hid hT3; clear hT3
      obtain ⟨b, off, rfl, hb, k0⟩ := (E.out.below hbel).byte_at hlt'
      rw [hT2, byteOf_val] at k0
      have HT2 := Lib.hid hT2; clear hT2
      have hi1 : (n : Int) < l.length := by omega
      have hi3 : (0 : Int) ≤ n := by omega
      go_wp2_with fail
      · go_roundg (l.length - (n + 1))
        case measure => omega
        case rel => exact ⟨n + 1, by omega, by simp; omega, by go_num, rfl, by show _ = _; rw [HT3.out]; congr 1; (simp; omega), hbel⟩
    · have e : n = l.length := by omega
      subst e
      go_wp2_with fail
      go_ret
      exact ⟨rfl, hbel⟩

theorem heldStepS_any (l : List GStep) (k : Int) (A : Option Addr) (c : Nat) (w : World) (hk : 0 ≤ k) (hk2 : k + 2 * l.length ≤ 1000000000000000) (h : SA w (markSt k l) A c) :
    Calls Try.prog 81 #[.slice A l.length c, .int .i64 k] w (Ret w (.int .i64 (k + 2 * l.length))) := by
  have E := Lib.hid h; clear h
  have hlen := markSt_len l k
  have hlm : l.length ≤ 9223372036854775807 := by omega
  have HL := Lib.hid hlen; clear hlen
  go_enter Try.func81, Try.ntmps81
  go_wp2_with fail
  go_loopg [1, 5] l.length (fun gk kk i wr => ∃ n : Nat, n ≤ l.length ∧ kk = .int .i64 (k + 2 * n) ∧ i = .int .i64 n ∧ gk = l.length - n ∧ Hid ((markSt k l).drop n = markSt (k + 2 * n) (l.drop n)) ∧ Below w.heap.size w wr)
  case atStart => exact ⟨0, by omega, by simp, rfl, by omega, by simp [Hid], bRf w⟩
  case round =>
    obtain ⟨n, hn, rfl, rfl, rfl, hT, hbel⟩ := hrel
    by_cases hlt : n < l.length
    · have hlt' : n < (markSt k l).length := by rw [HL.out]; exact hlt
      have hT1 := hT.out
      rw [List.drop_eq_getElem_cons hlt', List.drop_eq_getElem_cons hlt, markSt] at hT1
      injection hT1 with hT2 hT3
      have HT3 := Lib.hid hT3; clear hT3
      obtain ⟨b, off, rfl, hb, hI, k0, k1⟩ := (E.out.below hbel).step_at hlt'
      rw [hT2] at k0 k1
      have HT2 := Lib.hid hT2; clear hT2 hI
      have hi1 : (n : Int) < l.length := by omega
      have hi3 : (0 : Int) ≤ n := by omega
      cases hm : ((k + 2 * (n : Int) + 1) % 3 == 0)
      all_goals
        rw [hm] at k1
      all_goals go_wp2_with fail
      · go_roundg (l.length - (n + 1))
        case measure => omega
        case rel => exact ⟨n + 1, by omega, by simp; omega, by go_num, rfl, by show _ = _; rw [HT3.out]; congr 1; (simp; omega), hbel⟩
      · go_roundg (l.length - (n + 1))
        case measure => omega
        case rel => exact ⟨n + 1, by omega, by simp; omega, by go_num, rfl, by show _ = _; rw [HT3.out]; congr 1; (simp; omega), hbel⟩
    · have e : n = l.length := by omega
      subst e
      go_wp2_with fail
      go_ret
      exact ⟨rfl, hbel⟩

theorem heldLossS_any (l : List GLoss) (k : Int) (A : Option Addr) (c : Nat) (w : World) (hk : 0 ≤ k) (hk2 : k + cntL l ≤ 1000000000000000) (hn4 : l.length ≤ 4194304) (h : SA w (markL k l) A c) :
    Calls Try.prog 72 #[.slice A l.length c, .int .i64 k] w (Ret w (.int .i64 (k + cntL l))) := by
  obtain ⟨tot, htot⟩ : ∃ tot : Int, tot = k + cntL l := ⟨_, rfl⟩
  rw [← htot] at hk2 ⊢
  have TT := Lib.hid htot; clear htot
  have E := Lib.hid h; clear h
  have hlen := markL_len l k
  have hlm : l.length ≤ 9223372036854775807 := by omega
  have HL := Lib.hid hlen; clear hlen
  go_enter Try.func72, Try.ntmps72
  go_wp2_with fail
  go_loopg [1, 5] l.length (fun gk kk i wr => ∃ (n : Nat) (kc : Int), n ≤ l.length ∧ kk = .int .i64 kc ∧ 0 ≤ kc ∧ i = .int .i64 n ∧ gk = l.length - n ∧ Hid ((markL k l).drop n = markL kc (l.drop n) ∧ kc + cntL (l.drop n) = tot) ∧ Below w.heap.size w wr)
  case atStart => exact ⟨0, k, by omega, rfl, hk, rfl, by omega, ⟨rfl, TT.out.symm⟩, bRf w⟩
  case round =>
    obtain ⟨n, kc, hn, rfl, hkc, rfl, rfl, hT, hbel⟩ := hrel
    by_cases hlt : n < l.length
    · have hlt' : n < (markL k l).length := by rw [HL.out]; exact hlt
      have hT1 := hT.out
      rw [List.drop_eq_getElem_cons hlt', List.drop_eq_getElem_cons hlt, markL, cntL_cons] at hT1
      obtain ⟨hT1, hT4⟩ := hT1
      injection hT1 with hT2 hT3
      obtain ⟨b, off, A1, c1, rfl, hb, hI, hs, k0, k1⟩ := (E.out.below hbel).loss_at hlt'
      rw [hT2] at k0 k1 hs
      have hms := markSt_len l[n].p (kc + 1)
      rw [hms] at k1
      have hk3 : kc + 1 + 2 * l[n].p.length ≤ tot := by omega
      have HT := Lib.hid (And.intro hT3 hT4); clear hT2 hT3 hT4 hI hT hms
      have HS := Lib.hid hs; clear hs
      have hi1 : (n : Int) < l.length := by omega
      have hi3 : (0 : Int) ≤ n := by omega
      go_wp2_with fail
      refine (heldStepS_any l[n].p (kc + 1) A1 c1 _ (by omega) (by omega) HS.out).mono ?_
      rintro e w1 ⟨rfl, hb1⟩
      have hneg : decide (kc + 1 + 2 * (l[n].p.length : Int) < 0) = false := decide_eq_false (by omega)
      go_wp2_with fail
      go_roundg (l.length - (n + 1))
      case measure => omega
      case rel => exact ⟨n + 1, kc + 1 + 2 * l[n].p.length, by omega, rfl, by omega, by go_num, rfl, ⟨HT.out.1, by have := HT.out.2; omega⟩, bTr hbel hb1⟩
    · have e : n = l.length := by omega
      subst e
      have htt : kc = tot := by have := hT.out.2; rw [List.drop_length] at this; simpa [cntL] using this
      subst htt
      go_wp2_with fail
      go_ret
      exact ⟨rfl, hbel⟩

theorem heldOut_any (o : GOut) (k : Int) (A A' : Option Addr) (c c' : Nat) (w : World) (hk : 0 ≤ k) (hk2 : k + cntO o ≤ 1000000000000000) (hn4 : o.l.length ≤ 4194304) (h1 : SA w (markO k o).b A c) (h2 : SA w (markO k o).l A' c') :
    Calls Try.prog 30 #[.agg #[.slice A o.b.length c, .slice A' o.l.length c', .int .i64 o.code], .int .i64 k] w (Ret w (.int .i64 (k + cntO o))) := by
  obtain ⟨tot, htot⟩ : ∃ tot : Int, tot = k + cntO o := ⟨_, rfl⟩
  rw [← htot] at hk2 ⊢
  unfold cntO at htot
  have e1 : k + o.b.length ≤ 1000000000000000 := by omega
  have e2 : k + o.b.length + cntL o.l ≤ 1000000000000000 := by omega
  have htt : k + o.b.length + cntL o.l = tot := by omega
  have TT := Lib.hid htt
  have htp : 0 ≤ tot := by omega
  have hneg2 : decide (tot < 0) = false := decide_eq_false (by omega)
  clear htot htt
  have b0 := Lib.hid (bAl (bRf w) (.cells #[.slice A o.b.length c, .slice A' o.l.length c', .int .i64 o.code] 30))
  have P0 := Lib.hid (Blk.new w 30 #[.slice A o.b.length c, .slice A' o.l.length c', .int .i64 o.code])
  have E := Lib.hid (And.intro (h1.below b0.out) (h2.below b0.out)); clear h1 h2
  go_enter Try.func30, Try.ntmps30
  go_wp2_with fail
  refine (heldByteS_any o.b k A c _ hk (by omega) E.out.1).mono ?_
  rintro e w1 ⟨rfl, hb1⟩
  have b1 := Lib.hid (bTr b0.out hb1)
  have E1 := Lib.hid (E.out.2.below hb1)
  obtain ⟨p0, p1, p2⟩ := (P0.out.below hb1).c3
  clear hb1
  have hneg : decide (k + (o.b.length : Int) < 0) = false := decide_eq_false (by omega)
  go_wp2_with fail
  refine (heldLossS_any o.l (k + o.b.length) A' c' _ (by omega) (by omega) hn4 E1.out).mono ?_
  rintro e w2 ⟨rfl, hb2⟩
  have b2 := Lib.hid (bTr b1.out hb2); clear hb2
  rw [TT.out]
  go_wp2_with fail
  go_ret
  exact ⟨rfl, b2.out⟩
end Go.Proofs.Ytblcmajhdndmfaa
