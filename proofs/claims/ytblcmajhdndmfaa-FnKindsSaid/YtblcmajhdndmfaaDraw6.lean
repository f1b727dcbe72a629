/- Contracts: texts and bytes that the reference draws. -/
import Derived.Test.YtblcmajhdndmfaaDraw3
import Derived.Test.YtblcmajhdndmfaaDraw5
namespace Go.Proofs.Ytblcmajhdndmfaa
open Go.RowKit
set_option linter.unusedVariables false
set_option maxRecDepth 100000

theorem flat_len : ∀ (l : List Int), (l.flatMap encR).length ≤ 4 * l.length
  | [] => by simp
  | a :: l => by
    have h1 := flat_len l
    have h2 := encR_len a
    simp only [List.flatMap_cons, List.length_append, List.length_cons]; omega
theorem intAtD {w : World} {l : List Int} {A : Option Addr} {c : Nat} (h : SA w l A c) {i : Nat} (hi : i < l.length) :
    ∃ b off, A = some ⟨b, off, none⟩ ∧ b < w.heap.size ∧ I64 l[i] ∧ w.cell? ⟨b, off + i, none⟩ = some (.int .i64 l[i]) := by
  obtain ⟨b, off, cs, rfl, hb, ⟨F, ⟨_, rfl, hl⟩, _⟩, hc⟩ := h.at hi
  exact ⟨b, off, rfl, hb, hl, by simpa [Rep.wd] using hc.c0⟩

theorem specFromRunes_any (l : List Int) (A : Option Addr) (c : Nat) (w : World) (hn : l.length ≤ 250000) (hl : SA w l A c) :
    Calls Try.prog 157 #[.slice A l.length c] w (Ret w (.string (strOf (l.flatMap encR)))) := by
  obtain ⟨r, hr⟩ : ∃ r, r = strOf (l.flatMap encR) := ⟨_, rfl⟩
  rw [← hr]
  have R := Lib.hid hr; clear hr
  have E := Lib.hid hl; clear hl
  go_enter Try.func157, Try.ntmps157
  go_wp2_with fail
  go_loopg [3, 4] l.length (fun gk u3 i wr => ∃ (k : Nat) (bs : List UInt8) (A2 : Option Addr) (c2 : Nat), k ≤ l.length ∧ i = .int .i64 k ∧ gk = l.length - k ∧ u3 = .slice A2 bs.length c2 ∧ Hid (bs = (l.take k).flatMap encR) ∧ SA wr bs A2 c2 ∧ Below w.heap.size w wr)
  case atStart => exact ⟨0, [], some ⟨w.heap.size, 0, none⟩, 0, by omega, rfl, by omega, rfl, by show _ = _; simp, (OwnF.lit0' _ 5 w.heap.size _ rfl (Nat.le_refl _)).sf.2.sa, bAl (bRf w) _⟩
  case round =>
    obtain ⟨k, bs, A2, c2, hk, rfl, rfl, rfl, hbs, hsa, hbel⟩ := hrel
    have hbl : bs.length ≤ 1048576 := by
      rw [hbs.out]
      have := flat_len (l.take k)
      rw [List.length_take] at this; omega
    by_cases hlt : k < l.length
    · obtain ⟨b, off, rfl, hb, hI, k0⟩ := intAtD (E.out.below hbel) hlt
      have hi1 : (k : Int) < l.length := by omega
      have hi2 : (0 : Int) ≤ k := by omega
      have HS := Lib.hid (And.intro hsa hbel); clear hsa hbel
      have HI := Lib.hid hI; clear hI
      go_wp2_with fail
      refine (specPutRune_any bs l[k] A2 c2 wr hbl HI.out HS.out.1).mono ?_
      rintro e w2 ⟨A3, c3, rfl, hs3, hb3⟩
      have HS3 := Lib.hid (And.intro hs3.sa (bTr HS.out.2 hb3)); clear hs3 hb3
      go_wp2_with fail
      go_roundg (l.length - (k + 1))
      case measure => omega
      case rel => exact ⟨k + 1, bs ++ encR l[k], A3, c3, by omega, by go_num, rfl, by rw [List.length_append], by show _ = _; rw [List.take_succ_eq_append_getElem hlt, List.flatMap_append, ← hbs.out]; simp, HS3.out.1, HS3.out.2⟩
    · have e : k = l.length := by omega
      subst e
      have hcv := run_str_of_bytes (P := Try.prog) Try.underlying22 Try.underlying5 Try.underlying9 hsa
      have he : strOf bs = r := by rw [R.out, hbs.out, List.take_length]
      rw [he] at hcv
      have HB := Lib.hid hbel; clear hbel hsa
      go_wp2_with fail
      go_ret
      exact ⟨rfl, HB.out⟩

def RetTx (g : Nat) (code : List UInt8) (m : Nat) (w : World) (e : Ending) (w' : World) : Prop :=
  ∃ s : ByteArray, e = .returned (.string s) ∧ s.size ≤ m ∧ Ce g w w' ∧ Cur w' g code
theorem infoIntD : (Try.prog.info? 3).map (fun i => (i.zero, i.size, i.bytes)) = some (some (.int .i64 0), 1, 8) := by kernel_rfl
theorem intPlainD : ∀ (w : World) (F : List Nat) (a : Int) (cs : List Value), Rep.rp w F a cs → F = [] := fun _ _ _ _ h => h.1
theorem intLitD {W : World} {x : Int} (h : I64 x) : SA (W.alloc (.cells #[.int .i64 x] 3)) [x] (some ⟨W.heap.size, 0, none⟩) 1 :=
  (OwnF.lit1 (RF.int (base := W.heap.size) (w := W) x h) 3 (Nat.le_refl _)).sf.2.sa
theorem OwnF.ce {α : Type} [Rep α] {w w' : World} {g base : Nat} {t : TypeId} {v : Value} {l : List α} (h : OwnF w base t v l) (hc : Ce g w w') (hg : g < base) : OwnF w' base t v l := by
  obtain ⟨F, h1, h2⟩ := h
  have hlt := h1.own_lt
  obtain ⟨xs, h3, h4, h5⟩ := h1
  have hk : ∀ b, base ≤ b → b < w.heap.size → w'.heap[b]? = w.heap[b]? := fun b h1 h2 => hc.heap (by omega) h2
  refine ⟨F, ⟨xs, ?_, h4.keep fun b hb => hk b (h2.2 b hb).1 (h2.2 b hb).2.lt, h5⟩, h2.keep fun b hb => hk b (h2.2 b hb).1 (h2.2 b hb).2.lt⟩
  obtain ⟨h6, h7⟩ := h3
  refine ⟨h6, ?_⟩
  rcases h7 with h7 | ⟨g, cap, cur, rfl, hb, hh, h8, h9, h10, h11⟩
  · exact .inl h7
  · exact .inr ⟨g, cap, cur, rfl, hb, (hk g hb (hlt g rfl).2).trans hh, h8, h9, h10, h11⟩
theorem Ce.andthen {g n : Nat} {code : List UInt8} {w w' w'' : World} (h : Ce g w w' ∧ Cur w' g code) (hb : Below n w' w'') (hn : w.heap.size ≤ n) (hg : g < n) : Ce g w w'' ∧ Cur w'' g code := by
  obtain ⟨h1, A, c, i, hh, k1, k2, k3, k4, k5⟩ := h
  refine ⟨⟨h1.low.trans (hb.mono (by omega)), fun k a1 a2 => (hb.block k (by omega)).trans (h1.high k a1 a2)⟩, A, c, i, hh, (hb.block g hg).trans k1, k2, k3, k4, SS.keep k5 (fun x hx => hb.block x (by omega)) (fun _ h => h)⟩

theorem l2Text_any (g : Nat) (code : List UInt8) (w : World) (hc : Cur w g code) :
    Calls Try.prog 138 #[.pointer (some ⟨g, 0, none⟩)] w (RetTx g code 20 w) := by
  have hg := hc.lt
  go_enter Try.func138, Try.ntmps138
  go_wp2_with fail
  refine (l1Once_any g code 2 w (by omega) (by omega) hc).mono ?_
  rintro e w1 ⟨b, rfl, hce, hcur⟩
  have hz1 : g < w1.heap.size := hcur.lt
  have HX := Lib.hid (And.intro hce hcur); clear hce hcur
  cases b
  · go_wp2_with fail
    refine (l1Below_any g code 4 _ (by omega) (by omega) (HX.out.2.below (bAl (bRf w1) _))).mono ?_
    rintro e w2 ⟨k, rfl, hk0, hk1, hce, hcur⟩
    have hO : OwnF (α := Int) (w1.alloc (.cells #[] 3)) w1.heap.size 3 (.slice (some ⟨w1.heap.size, 0, none⟩) 0 0) [] := OwnF.lit0' _ _ _ _ rfl (Nat.le_refl _)
    have HO := Lib.hid (hO.ce hce hz1); clear hO
    have hz2 : w1.heap.size ≤ w2.heap.size := by have := hce.size; simp at this; omega
    have hw1 : w.heap.size ≤ w1.heap.size := HX.out.1.size
    have HY := Lib.hid (And.intro ((HX.out.1.add _ (by omega)).trans hce) hcur); clear hce hcur
    obtain ⟨n, rfl⟩ : ∃ n : Nat, k = n := ⟨k.toNat, by omega⟩
    go_wp2_with fail
    go_loopg [3, 4] n (fun gk u3 i wr => ∃ (ns : List Int), i = .int .i64 gk ∧ gk ≤ n ∧ ns.length + gk = n ∧ OwnF wr w1.heap.size 3 u3 ns ∧ Ce g w wr ∧ Cur wr g code ∧ w1.heap.size ≤ wr.heap.size)
    case atStart => exact ⟨[], rfl, Nat.le_refl _, by simp, HO.out, HY.out.1, HY.out.2, hz2⟩
    case round =>
      obtain ⟨ns, rfl, hgn, hns, hown, hce, hcur, hzr⟩ := hrel
      have HS := Lib.hid (And.intro hown (And.intro hce hcur)); clear hown hce hcur
      by_cases hlt : 0 < gk
      · have hi1 : (0 : Int) < gk := by omega
        go_wp2_with fail
        refine (l2Rune_any g code wr HS.out.2.2).mono ?_
        rintro e w3 ⟨x, rfl, hx0, hx1, hce, hcur⟩
        have HO3 := Lib.hid (HS.out.1.ce hce hz1)
        have hz3 : w1.heap.size ≤ w3.heap.size := Nat.le_trans hzr hce.size
        have HS3 := Lib.hid (And.intro (HS.out.2.1.trans hce) hcur); clear hce hcur
        go_wp2_with (at_builtin; (refine app_list rfl _ _ 58 rfl (v := u3) (u := .slice (some ⟨w3.heap.size, 0, none⟩) 1 1) (by rfl) (by rfl) (run_app_P intPlainD 58 _ w1.heap.size 3 (.int .i64 0) 8 Try.underlying58 infoIntD rfl (by decide) u3 ns [x] _ _ (HO3.out.alloc _) (intLitD ⟨by omega, by omega⟩) (by simp; omega) (by simp; unfold maxLen; omega) (by simp; omega)) ?_; rintro r5 w5 ⟨ho5, hbl5, hlc5, hg5⟩; have HO5 := Lib.hid (And.intro ho5 (And.intro hbl5 (And.intro hlc5 hg5))); clear ho5 hbl5 hlc5 hg5))
        go_roundg (gk - 1)
        case measure => omega
        case rel =>
          have h5 := Ce.andthen (n := w1.heap.size) HS3.out (Below.trans ((Below.refl _ _).alloc hz3 _) HO5.out.2.1) hw1 hz1
          refine ⟨ns ++ [x], by congr 1; omega, by omega, by simp; omega, HO5.out.1, h5.1, h5.2, ?_⟩
          have := HO5.out.2.1.size
          simp at this; omega
      · have hg0 : gk = 0 := by omega
        subst hg0
        have hd : ¬ ((0 : Int) < 0) := by omega
        obtain ⟨Au, cu, rfl⟩ := HS.out.1.form
        have hnl : ns.length ≤ 3 := by omega
        go_wp2_with fail
        refine (specFromRunes_any ns Au cu wr (by omega) HS.out.1.sf.2.sa).mono ?_
        rintro e w3 ⟨rfl, hb3⟩
        have hsz : (strOf (ns.flatMap encR)).size ≤ 20 := by rw [strOf_size]; have := flat_len ns; omega
        generalize strOf (ns.flatMap encR) = s at hsz ⊢
        have hgr : g < wr.heap.size := HS.out.2.2.lt
        have h5 := Lib.hid (Ce.andthen HS.out.2 hb3 (Nat.le_trans hw1 hzr) hgr); clear hb3
        go_wp2_with fail
        go_ret
        exact ⟨s, rfl, hsz, h5.out.1, h5.out.2⟩
  · go_wp2_with fail
    refine (l1Str_any g code w1.heap.size 9 9 [⟨#[]⟩, ⟨#[97]⟩, ⟨#[98]⟩, ⟨#[107, 101, 121]⟩, ⟨#[120, 32, 121]⟩, ⟨#[49]⟩, ⟨#[195, 169]⟩, ⟨#[34]⟩, ⟨#[92]⟩] _ (Blk.new w1 _ _) (by omega) rfl (by omega) (by omega) (HX.out.2.below (bAl (bRf w1) _))).mono ?_
    rintro e w2 ⟨s, rfl, hs, hce, hcur⟩
    have hs8 : s.size ≤ 8 := by
      have : ∀ s ∈ ([⟨#[]⟩, ⟨#[97]⟩, ⟨#[98]⟩, ⟨#[107, 101, 121]⟩, ⟨#[120, 32, 121]⟩, ⟨#[49]⟩, ⟨#[195, 169]⟩, ⟨#[34]⟩, ⟨#[92]⟩] : List ByteArray), s.size ≤ 8 := by decide
      exact this s hs
    have HY := Lib.hid (And.intro ((HX.out.1.add _ (by omega)).trans hce) hcur); clear hce hcur hs
    go_wp2_with fail
    go_ret
    exact ⟨s, rfl, by omega, HY.out.1, HY.out.2⟩
end Go.Proofs.Ytblcmajhdndmfaa
