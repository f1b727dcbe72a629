/- Contracts: Bends, in the reference. -/
import Derived.Test.YtblcmajhdndmfaaBends
import Derived.Deep.DeepCutAuto
namespace Go.Proofs.Ytblcmajhdndmfaa
open Go.RowKit
set_option linter.unusedVariables false
set_option maxRecDepth 100000

set_option maxHeartbeats 1000000 in
theorem l18Copy_any (x : GLoss) (A : Option Addr) (c : Nat) (w : World) (hn : x.p.length ≤ 4194304) (hx : SA w x.p A c) :
    Calls Try.prog 99 #[.agg #[.int .i64 x.kind, .slice A x.p.length c]] w fun e w' => ∃ A' c', e = .returned (.agg #[.int .i64 x.kind, .slice A' x.p.length c']) ∧ SF w.heap.size w' x.p A' c' ∧ Below w.heap.size w w' := by
  have b0 := bAl (bAl (bRf w) (.cells #[.int .i64 x.kind, .slice A x.p.length c] 88)) (.cells #[.int .i64 0, .slice none 0 0] 88)
  have E := Lib.hid (hx.below b0); clear hx
  have P0 := Lib.hid ((Blk.new w 88 #[.int .i64 x.kind, .slice A x.p.length c]).alloc (.cells #[.int .i64 0, .slice none 0 0] 88))
  have P1 := Lib.hid (Blk.at (w := w.alloc (.cells #[.int .i64 x.kind, .slice A x.p.length c] 88)) (g := w.heap.size + 1) (t := 88) (cs := #[.int .i64 0, .slice none 0 0]) (by simp))
  have B0 := Lib.hid b0; clear b0
  go_enter Try.func99, Try.ntmps99
  go_wp2_with fail
  go_region_held3 (fun u => u.cell? ⟨w.heap.size, 0, none⟩ = some (.int .i64 x.kind) ∧ u.cell? ⟨w.heap.size, 1, none⟩ = some (.slice A x.p.length c)) (go_keep)
    (first
      | ((apply app_step (s := .tmp 5) (x := .tmp 7) (t := 77) (v := .slice (some ⟨w.heap.size + 1 + 1, 0, none⟩) 0 0) (u := .slice A x.p.length c); (try case hgd => exact rfl); (try case ho => exact rfl); (try case hs => exact rfl); (try case hx => exact rfl); (case hrun => exact run_app_P (P := Try.prog) stepPlain 77 77 (w.heap.size + 1 + 1) 109 (.agg #[.int .i64 0, .bool false]) 16 Try.underlying77 infoStep rfl (by decide) _ [] x.p A c (OwnF.lit0' _ _ _ _ (by simp) (by omega)).drew (E.out.below (bAl (bRf _) _)).drew (by simp; omega) (by simp; unfold maxLen; omega) (by simp)); rintro v1 w1 ⟨ho, hbl, _, hg⟩; rw [List.nil_append] at ho; obtain ⟨A1, c1, rfl⟩ := ho.form; have HB1 := Lib.hid (show Below w.heap.size w w1 from Below.trans (bAl B0.out _).drew (hbl.mono (by omega))); have HO1 := Lib.hid ho; have HP := Lib.hid (Blk.keepB (P0.out.alloc (.cells #[] 109)).drew hbl (by omega)); have HQ := Lib.hid (Blk.keepB (P1.out.alloc (.cells #[] 109)).drew hbl (by omega)); obtain ⟨q0, q1⟩ := HP.out.c2; obtain ⟨y0, y1⟩ := HQ.out.c2; have f0 := HQ.out.frozen 0; have f1 := HQ.out.frozen 1; have hz := HQ.out.lt; clear ho hbl hg)))
  go_wp2_with fail
  refine bodyPost_ret (v := .agg #[.int .i64 x.kind, .slice A1 x.p.length c1]) (by simp [results, Try.results99, go_sem, *]) rfl ?_
  refine ⟨A1, c1, rfl, ?_, ?_⟩
  · refine SF.mono (base := w.heap.size + 1 + 1) ?_ (by omega)
    refine SF.set (SF.set HO1.out.sf.2 ?_ _) ?_ _
    all_goals (simp; try omega)
  · refine Below.setCell (Below.setCell HB1.out ?_ _) ?_ _
    all_goals (simp; try omega)

theorem OwnF.plain {α : Type} [Rep α] (hP : ∀ w F (a : α) cs, Rep.rp w F a cs → F = []) {w : World} {base : Nat} {t : TypeId} {A : Option Addr} {n c : Nat} {l : List α} (h : OwnF w base t (.slice A n c) l) :
    ∃ F, SlR w F l A c ∧ Fresh base w F ∧ ∀ b, b ∈ F → (Value.slice A n c).ownBlock = some b := by
  obtain ⟨F, h1, h2⟩ := h
  obtain ⟨xs, _, he, _⟩ := id h1
  have hF := elemsPlain hP he
  subst hF
  obtain ⟨_, F', h3, h4⟩ := h1.slr
  refine ⟨F', h3, ?_⟩
  rcases h4 with rfl | ⟨g, rfl, rfl, h5, h6, h7⟩
  · exact ⟨Fresh.nil _ _, by simp⟩
  · exact ⟨⟨by simp, fun b hb => by simp at hb; subst hb; exact ⟨h5, h6⟩⟩, fun b hb => by simp at hb; subst hb; rfl⟩

def RetOA (w : World) (o : GOut) (e : Ending) (w' : World) : Prop := ∃ A1 c1 A2 c2, e = .returned (.agg #[.slice A1 o.b.length c1, .slice A2 o.l.length c2, .int .i64 o.code]) ∧ SA w' o.b A1 c1 ∧ SA w' o.l A2 c2 ∧ Below w.heap.size w w'

set_option maxHeartbeats 2000000 in
theorem l28Copy_any (o : GOut) (A A' : Option Addr) (c c' : Nat) (w : World) (hn : bulkOut o ≤ 1048576) (h1 : SA w o.b A c) (h2 : SA w o.l A' c') :
    Calls Try.prog 65 #[.agg #[.slice A o.b.length c, .slice A' o.l.length c', .int .i64 o.code]] w (RetO w o) := by
  have hn1 : o.b.length ≤ 1048576 := by unfold bulkOut at hn; omega
  have hn2 : o.l.length ≤ 1048576 := by unfold bulkOut bulkLossS at hn; omega
  have hp : Hid (∀ k (h : k < o.l.length), o.l[k].p.length ≤ 1048576) := fun k h => by
    have := le_sum_at bulkLoss o.l h; unfold bulkOut bulkLossS bulkLoss at *; omega
  have b0 := bAl (bAl (bRf w) (.cells #[.slice A o.b.length c, .slice A' o.l.length c', .int .i64 o.code] 30)) (.cells #[.slice none 0 0, .slice none 0 0, .int .i64 0] 30)
  have E := Lib.hid (And.intro (h1.below b0) h2); clear h1 h2 hn
  have P0 := Lib.hid ((Blk.new w 30 #[.slice A o.b.length c, .slice A' o.l.length c', .int .i64 o.code]).alloc (.cells #[.slice none 0 0, .slice none 0 0, .int .i64 0] 30))
  have P1 := Lib.hid (Blk.at (w := w.alloc (.cells #[.slice A o.b.length c, .slice A' o.l.length c', .int .i64 o.code] 30)) (g := w.heap.size + 1) (t := 30) (cs := #[.slice none 0 0, .slice none 0 0, .int .i64 0]) (by simp))
  have B0 := Lib.hid b0; clear b0
  go_enter Try.func65, Try.ntmps65
  go_wp2_with fail
  go_cut [3] (fun s3 wx => ∃ gx A1 c1, s3 = .pointer (some ⟨gx, 0, none⟩) ∧ w.heap.size + 1 + 1 ≤ gx ∧ Blk wx gx 30 #[.slice A1 o.b.length c1, .slice none 0 0, .int .i64 o.code] ∧
    (∃ F, SlR wx F o.b A1 c1 ∧ Fresh (w.heap.size + 1 + 1) wx F ∧ gx ∉ F) ∧ Below (w.heap.size + 1 + 1) ((w.alloc (.cells #[.slice A o.b.length c, .slice A' o.l.length c', .int .i64 o.code] 30)).alloc (.cells #[.slice none 0 0, .slice none 0 0, .int .i64 0] 30)) wx)
  case first =>
    have XB := Lib.hid (show Blk ((((w.alloc (.cells #[.slice A o.b.length c, .slice A' o.l.length c', .int .i64 o.code] 30)).alloc (.cells #[.slice none 0 0, .slice none 0 0, .int .i64 0] 30)).alloc (.cells #[.slice none 0 0, .slice none 0 0, .int .i64 0] 30)).alloc (.cells #[] 5)).drew (w.heap.size + 1 + 1) 30 #[.slice none 0 0, .slice none 0 0, .int .i64 0] from ((Blk.at (by simp)).alloc _).drew)
    have XC := Lib.hid (show Blk ((((w.alloc (.cells #[.slice A o.b.length c, .slice A' o.l.length c', .int .i64 o.code] 30)).alloc (.cells #[.slice none 0 0, .slice none 0 0, .int .i64 0] 30)).alloc (.cells #[] 5)).alloc (.cells #[.slice none 0 0, .slice none 0 0, .int .i64 0] 30)).drew (w.heap.size + 1 + 1 + 1) 30 #[.slice none 0 0, .slice none 0 0, .int .i64 0] from (Blk.at (by simp)).drew)
    have NB : (Value.slice (some ⟨w.heap.size + 1 + 1 + 1, 0, none⟩) 0 0).ownBlock ≠ some (w.heap.size + 1 + 1) := by simp [Value.ownBlock]
    have NC : (Value.slice (some ⟨w.heap.size + 1 + 1, 0, none⟩) 0 0).ownBlock ≠ some (w.heap.size + 1 + 1 + 1) := by simp [Value.ownBlock]
    go_region_held3 (fun u => u.cell? ⟨w.heap.size, 0, none⟩ = some (.slice A o.b.length c) ∧ u.cell? ⟨w.heap.size, 2, none⟩ = some (.int .i64 o.code)) (go_keep)
      (first
        | ((apply app_step (s := .tmp 6) (x := .tmp 8) (t := 22) (v := .slice (some ⟨_, 0, none⟩) 0 0) (u := .slice A o.b.length c); (try case hgd => exact rfl); (try case ho => exact rfl); (try case hs => exact rfl); (try case hx => exact rfl); (case hrun => exact run_app_P (P := Try.prog) bytePlain 22 22 (w.heap.size + 1 + 1) 5 (.int .u8 0) 1 Try.underlying22 infoByte rfl (by decide) _ [] o.b A c (by first | exact (OwnF.lit0' _ _ _ _ (by simp) (by omega)).drew | exact ((OwnF.lit0' _ _ _ _ (by simp) (by omega)).alloc _).drew) (by first | exact (E.out.1.below (bAl (bRf _) _)).drew | exact (E.out.1.below (bAl (bAl (bRf _) _) _)).drew) (by simp; omega) (by simp; unfold maxLen; omega) (by simp)); rintro v1 w1 ⟨ho, hbl, hloc, hg⟩; rw [List.nil_append] at ho; obtain ⟨A1, c1, rfl⟩ := ho.form; have HB1 := Lib.hid (show Below (w.heap.size + 1 + 1) ((w.alloc (.cells #[.slice A o.b.length c, .slice A' o.l.length c', .int .i64 o.code] 30)).alloc (.cells #[.slice none 0 0, .slice none 0 0, .int .i64 0] 30)) w1 from Below.trans (by first | exact ((Below.refl (w.heap.size + 1 + 1) _).alloc (by simp) _).drew | exact (((Below.refl (w.heap.size + 1 + 1) _).alloc (by simp) _).alloc (by simp <;> omega) _).drew) hbl); have HP := Lib.hid (Blk.keepB (show Blk _ w.heap.size 30 #[.slice A o.b.length c, .slice A' o.l.length c', .int .i64 o.code] by first | exact (P0.out.alloc _).drew | exact ((P0.out.alloc _).alloc _).drew) hbl (by omega)); obtain ⟨q0, q1, q2⟩ := HP.out.c3; have HO1 := Lib.hid (And.intro (OwnF.plain bytePlain ho) hloc); (first | (have HX := Lib.hid (XB.out.grown hg NB); have hzx := HX.out.lt; have nx : w.heap.size ≠ w.heap.size + 1 + 1 := (by omega); have nx' : w.heap.size + 1 + 1 ≠ w.heap.size := (by omega); obtain ⟨x0, x1, x2⟩ := HX.out.c3; have f0 := HX.out.frozen 0; have f1 := HX.out.frozen 1; have f2 := HX.out.frozen 2) | (have HX := Lib.hid (XC.out.grown hg NC); have hzx := HX.out.lt; have nx : w.heap.size ≠ w.heap.size + 1 + 1 + 1 := (by omega); have nx' : w.heap.size + 1 + 1 + 1 ≠ w.heap.size := (by omega); obtain ⟨x0, x1, x2⟩ := HX.out.c3; have f0 := HX.out.frozen 0; have f1 := HX.out.frozen 1; have f2 := HX.out.frozen 2) | (have hzx : w.heap.size < w1.heap.size := HP.out.lt; have nx : w.heap.size ≠ w1.heap.size := (by omega); have nx' : w1.heap.size ≠ w.heap.size := (by omega))); clear ho hbl hloc hg)))
    · go_wp2_with fail
      go_meet
      obtain ⟨F, h1, h2, h3⟩ := HO1.out.1
      have hal := bAl (bRf w1) (.cells #[.slice A1 o.b.length c1, .slice none 0 0, .int .i64 o.code] 30)
      have hsz := HB1.out.size
      simp only [World.size_alloc] at hsz
      exact ⟨w1.heap.size, A1, c1, rfl, hsz, Blk.at rfl, ⟨F, h1.keep fun b hb => hal.block b (h2.2 b hb).2.lt, h2.below hal, fun hm => by have := (h2.2 _ hm).2.lt; omega⟩, HB1.out.alloc hsz _⟩
    · go_wp2_with fail
      go_meet
      obtain ⟨F, h1, h2, h3⟩ := HO1.out.1
      have hloc := HO1.out.2
      have hne : ∀ b, b ∈ F → b ≠ (w.heap.size + 1 + 1 + 1) := fun b hb e => by
        have := h3 b hb
        rw [this] at hloc
        simp [Value.ownBlock] at hloc
        omega
      have hk : ∀ b, b ∈ F → (((w1.setCell ⟨(w.heap.size + 1 + 1 + 1), 0, none⟩ (.slice A1 o.b.length c1)).setCell ⟨(w.heap.size + 1 + 1 + 1), 1, none⟩ (.slice none 0 0)).setCell ⟨(w.heap.size + 1 + 1 + 1), 2, none⟩ (.int .i64 o.code)).heap[b]? = w1.heap[b]? := fun b hb => by
        rw [Below.heap_setCell _ _ _ _ (hne b hb), Below.heap_setCell _ _ _ _ (hne b hb), Below.heap_setCell _ _ _ _ (hne b hb)]
      refine ⟨w.heap.size + 1 + 1 + 1, A1, c1, rfl, by omega, ((HX.out.set_ 0 _).set_ 1 _).set_ 2 _, ⟨F, h1.keep hk, h2.keep hk, fun hm => hne _ hm rfl⟩, ?_⟩
      exact ((HB1.out.setCell (by simp <;> omega) _).setCell (by simp <;> omega) _).setCell (by simp <;> omega) _
    · go_wp2_with fail
      go_meet
      obtain ⟨F, h1, h2, h3⟩ := HO1.out.1
      have hloc := HO1.out.2
      have hne : ∀ b, b ∈ F → b ≠ (w.heap.size + 1 + 1) := fun b hb e => by
        have := h3 b hb
        rw [this] at hloc
        simp [Value.ownBlock] at hloc
        omega
      have hk : ∀ b, b ∈ F → (((w1.setCell ⟨(w.heap.size + 1 + 1), 0, none⟩ (.slice A1 o.b.length c1)).setCell ⟨(w.heap.size + 1 + 1), 1, none⟩ (.slice none 0 0)).setCell ⟨(w.heap.size + 1 + 1), 2, none⟩ (.int .i64 o.code)).heap[b]? = w1.heap[b]? := fun b hb => by
        rw [Below.heap_setCell _ _ _ _ (hne b hb), Below.heap_setCell _ _ _ _ (hne b hb), Below.heap_setCell _ _ _ _ (hne b hb)]
      refine ⟨w.heap.size + 1 + 1, A1, c1, rfl, by omega, ((HX.out.set_ 0 _).set_ 1 _).set_ 2 _, ⟨F, h1.keep hk, h2.keep hk, fun hm => hne _ hm rfl⟩, ?_⟩
      exact ((HB1.out.setCell (by simp <;> omega) _).setCell (by simp <;> omega) _).setCell (by simp <;> omega) _
  case rest =>
    obtain ⟨gx, A1, c1, rfl, hgx, hX, ⟨F, hF1, hF2, hF3⟩, hbx⟩ := hcut
    have Q0 := Lib.hid (P0.out.keepB hbx (by omega))
    have Q1 := Lib.hid (P1.out.keepB hbx (by omega))
    have HBW := Lib.hid (B0.out.trans (hbx.mono (by omega)))
    have hgl := hX.lt
    have HF := Lib.hid (And.intro hF1 (And.intro hF2 hF3))
    have HX := Lib.hid hX
    clear hX hF1 hF2 hF3 hbx
    go_wp2_with fail
    go_loopg [4] o.l.length (fun gk i wr => ∃ (k : Nat) (rv : Value), k ≤ o.l.length ∧ i = .int .i64 k ∧ gk = o.l.length - k ∧
      Blk wr w.heap.size 30 #[.slice A o.b.length c, .slice A' o.l.length c', .int .i64 o.code] ∧ Blk wr (w.heap.size + 1) 30 #[.slice none 0 0, .slice none 0 0, .int .i64 0] ∧
      Blk wr gx 30 #[.slice A1 o.b.length c1, rv, .int .i64 o.code] ∧ OwnF wr wc.heap.size 88 rv (o.l.take k) ∧ SlR wr F o.b A1 c1 ∧ Fresh (w.heap.size + 1 + 1) wr F ∧ wc.heap.size ≤ wr.heap.size ∧ Below w.heap.size w wr)
    case atStart => exact ⟨0, .slice none 0 0, by omega, rfl, by omega, Q0.out, Q1.out, HX.out, OwnF.nil_ _ _ _, HF.out.1, HF.out.2.1, Nat.le_refl _, HBW.out⟩
    case round =>
      obtain ⟨k, rv, hk, rfl, rfl, hP0, hP1, hP2, hown, hb1, hb2, hzw, hbel⟩ := hrel
      have hz0 := hP0.lt
      have hz1 := hP1.lt
      have hz2 := hP2.lt
      by_cases hlt : k < o.l.length
      · obtain ⟨b, off, A2, c2, rfl, hb, hI, hs, k0, k1⟩ := (E.out.2.below hbel).loss_at hlt
        obtain ⟨p0, p1, p2⟩ := hP0.c3
        have HS := Lib.hid (And.intro hI hs); clear hI hs
        go_wp2_with fail
        refine (l18Copy_any o.l[k] A2 c2 _ (by have := hp.out k hlt; omega) HS.out.2).mono ?_
        rintro e w3 ⟨A3, c3, rfl, hsf, hb3⟩
        have HB := Lib.hid (And.intro hown (And.intro hsf hb3))
        have R0 := Lib.hid (hP0.below hb3)
        have R1 := Lib.hid (hP1.below hb3)
        have R2 := Lib.hid (hP2.below hb3)
        have HFr := Lib.hid (And.intro (hb1.keep fun b hb => hb3.block b (hb2.2 b hb).2.lt) (hb2.below hb3))
        have hy0 : w.heap.size < w3.heap.size := R0.out.lt
        have hy1 : w.heap.size + 1 < w3.heap.size := R1.out.lt
        have hy2 : gx < w3.heap.size := R2.out.lt
        have f2 := R2.out.frozen 1
        have hbel1 := Lib.hid (bTr hbel hb3)
        have ng1 : gx ≠ w3.heap.size := by omega
        have ng2 : w3.heap.size ≠ gx := by omega
        clear hb3 hsf hown hP0 hP1 hP2 p0 p1 p2 k0 k1 hbel hb1 hb2
        obtain ⟨p0, p1, p2⟩ := R0.out.c3
        obtain ⟨q0, q1, q2⟩ := R2.out.c3
        have htk : (o.l.take k).length = k := by rw [List.length_take]; omega
        have htk1 : (o.l.take (k + 1)).length = k + 1 := by rw [List.length_take]; omega
        go_wp2_with (at_builtin; (refine app_list rfl _ _ 28 rfl rfl rfl (run_app1_F 28 _ wc.heap.size 88 (.agg #[.int .i64 0, .slice none 0 0]) 32 Try.underlying28 infoLoss rfl (by decide) rv (o.l.take k) o.l[k] _ wr _ _ HB.out.1 (bTr HB.out.2.2 (bAl (bAl (bRf w3) _) _)) (RF.below (RF.loss (x := o.l[k]) HS.out.1 HB.out.2.1) (bAl (bAl (bRf w3) _) _)) (cells_at [_, _] (by simp)) (by rw [htk]; omega) (by rw [htk]; unfold maxLen; omega) hzw) ?_; rintro rv' w4 ⟨ho, hbl, _⟩; rw [← List.take_succ_eq_append_getElem hlt] at ho; obtain ⟨Av, cv, rfl⟩ := ho.form; rw [htk1] at ho ⊢; have HO := Lib.hid (And.intro ho hbl); have R2' := Lib.hid (((R2.out.alloc _).alloc _).keepB hbl (by omega)); have f2' := R2'.out.frozen 1; obtain ⟨r0, r1, r2⟩ := R2'.out.c3; clear ho hbl))
        go_roundg (o.l.length - (k + 1))
        case measure => omega
        case rel =>
          have hsz3 := HB.out.2.2.size
          have hFlt : ∀ b, b ∈ F → b < wc.heap.size := fun b hb => (HF.out.2.1.2 b hb).2.lt
          have hkF : ∀ b, b ∈ F → (w4.setCell ⟨gx, 1, none⟩ (.slice Av (k + 1) cv)).heap[b]? = w3.heap[b]? := fun b hb => by
            have hbc := hFlt b hb
            rw [Below.heap_setCell _ _ _ _ (fun e => HF.out.2.2 (by rw [← show b = gx from e]; exact hb)), HO.out.2.block b hbc]
            exact (bAl (bAl (bRf w3) _) _).block b (by omega)
          refine ⟨k + 1, .slice Av (k + 1) cv, by omega, by go_num, rfl, ?_, ?_, R2'.out.set_ 1 _, HO.out.1.set hgl _, HFr.out.1.keep hkF, HFr.out.2.keep hkF, ?_, ?_⟩
          · exact (((R0.out.alloc _).alloc _).keepB HO.out.2 (by omega)).far (by simp <;> omega) _
          · exact (((R1.out.alloc _).alloc _).keepB HO.out.2 (by omega)).far (by simp <;> omega) _
          · have := HO.out.2.size; simp [World.setCell] at this ⊢; omega
          · exact ((bTr hbel1.out (bAl (bAl (bRf w3) _) _)).trans (HO.out.2.mono (by omega))).setCell (by simp <;> omega) _
      · have e : k = o.l.length := by omega
        subst e
        rw [List.take_length] at hown
        obtain ⟨Av, cv, rfl⟩ := hown.form
        have HO := Lib.hid (And.intro hown (And.intro hb1 (And.intro hb2 hbel))); clear hown hb1 hb2 hbel
        obtain ⟨p0, p1, p2⟩ := hP0.c3
        obtain ⟨q0, q1, q2⟩ := hP2.c3
        obtain ⟨r0, r1, r2⟩ := hP1.c3
        have f0 := hP1.frozen 0
        have f1 := hP1.frozen 1
        have f2 := hP1.frozen 2
        clear hP0 hP1 hP2
        go_wp2_with fail
        refine bodyPost_ret (v := .agg #[.slice A1 o.b.length c1, .slice Av o.l.length cv, .int .i64 o.code]) (by simp [results, Try.results65, go_sem, *]) rfl ?_
        refine ⟨A1, c1, Av, cv, rfl, ?_, ?_⟩
        · have h1 : SF (w.heap.size + 1 + 1) _ o.b A1 c1 := SF.set (p := ⟨w.heap.size + 1, 2, none⟩) (SF.set (p := ⟨w.heap.size + 1, 1, none⟩) (SF.set (p := ⟨w.heap.size + 1, 0, none⟩) ⟨F, HO.out.2.1, HO.out.2.2.1⟩ (by simp) (.slice A1 o.b.length c1)) (by simp) (.slice Av o.l.length cv)) (by simp) (.int .i64 o.code)
          obtain ⟨F2, h3, h4⟩ := HO.out.1.sf.2
          have hk : ∀ b, w.heap.size + 1 + 1 ≤ b → (((wr.setCell ⟨w.heap.size + 1, 0, none⟩ (.slice A1 o.b.length c1)).setCell ⟨w.heap.size + 1, 1, none⟩ (.slice Av o.l.length cv)).setCell ⟨w.heap.size + 1, 2, none⟩ (.int .i64 o.code)).heap[b]? = wr.heap[b]? := fun b hb => by
            rw [Below.heap_setCell _ _ _ _ (by simp; omega), Below.heap_setCell _ _ _ _ (by simp; omega), Below.heap_setCell _ _ _ _ (by simp; omega)]
          have hlF : ∀ b, b ∈ F → w.heap.size + 1 + 1 ≤ b ∧ b < wc.heap.size := fun b hb => ⟨(HF.out.2.1.2 b hb).1, (HF.out.2.1.2 b hb).2.lt⟩
          have hlF2 : ∀ b, b ∈ F2 → wc.heap.size ≤ b := fun b hb => (h4.2 b hb).1
          refine ⟨F, F2, HO.out.2.1.keep fun b hb => hk b (hlF b hb).1, h3.keep fun b hb => hk b (by have := hlF2 b hb; omega), ?_, fun b hb => ?_⟩
          · rw [List.nodup_append]
            exact ⟨HO.out.2.2.1.1, h4.1, fun x hx y hy e => by have := (hlF x hx).2; have := hlF2 y hy; omega⟩
          · rcases List.mem_append.1 hb with hb | hb
            · exact ⟨by have := (hlF b hb).1; omega, (HO.out.2.2.1.2 b hb).2.keep (hk b (hlF b hb).1)⟩
            · exact ⟨by have := hlF2 b hb; omega, (h4.2 b hb).2.keep (hk b (by have := hlF2 b hb; omega))⟩
        · refine Below.setCell (Below.setCell (Below.setCell HO.out.2.2.2 ?_ _) ?_ _) ?_ _
          all_goals (simp; try omega)
end Go.Proofs.Ytblcmajhdndmfaa
