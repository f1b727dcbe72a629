/- Contracts: Fewer, in the reference. -/
import Derived.Test.YtblcmajhdndmfaaFewer
import Derived.Test.YtblcmajhdndmfaaBends2
import Derived.Test.YtblcmajhdndmfaaOwnS
import Derived.Deep.RegionLaw
namespace Go.Proofs.Ytblcmajhdndmfaa
open Go.RowKit
set_option linter.unusedVariables false
set_option maxRecDepth 100000

theorem fewer_end (o : GOut) (j : Nat) (A1 A4 : Option Addr) (c1 c4 n4 : Nat) (w w1 w2 w4 : World) (r : GOut) (h1 : w.heap.size + 1 < w1.heap.size) (h2 : w1.heap.size < w2.heap.size) (h4 : w2.heap.size ≤ w4.heap.size) (hn4 : n4 = ([] ++ o.l.take j ++ o.l.drop (j + 1)).length)
    (hr : r = { o with l := o.l.eraseIdx j }) (F1 : List Nat) (hs1 : SlR w1 F1 o.b A1 c1) (hF1 : ∀ b, b ∈ F1 → w.heap.size + 1 + 1 ≤ b ∧ b < w1.heap.size)
    (hk : ∀ b, b < w1.heap.size → w4.heap[b]? = w1.heap[b]?) (ho : OwnS w4 w2.heap.size 88 (.slice A4 ([] ++ o.l.take j ++ o.l.drop (j + 1)).length c4) ([] ++ o.l.take j ++ o.l.drop (j + 1)) (fun b => w.heap.size + 1 + 1 ≤ b ∧ b < w1.heap.size)) (hb1 : Below w.heap.size w w1) (hb4 : Below w1.heap.size w1 w4) :
    RetOA w r (.returned (.agg #[.slice A1 o.b.length c1, .slice A4 n4 c4, .int .i64 o.code])) ((((w4.setCell ⟨w1.heap.size, 1, none⟩ (.slice A4 n4 c4)).setCell ⟨w.heap.size + 1, 0, none⟩ (.slice A1 o.b.length c1)).setCell ⟨w.heap.size + 1, 1, none⟩ (.slice A4 n4 c4)).setCell ⟨w.heap.size + 1, 2, none⟩ (.int .i64 o.code)) := by
  subst hn4
  obtain ⟨W, hW⟩ : ∃ W, W = ((((w4.setCell ⟨w1.heap.size, 1, none⟩ (.slice A4 ([] ++ o.l.take j ++ o.l.drop (j + 1)).length c4)).setCell ⟨w.heap.size + 1, 0, none⟩ (.slice A1 o.b.length c1)).setCell ⟨w.heap.size + 1, 1, none⟩ (.slice A4 ([] ++ o.l.take j ++ o.l.drop (j + 1)).length c4)).setCell ⟨w.heap.size + 1, 2, none⟩ (.int .i64 o.code)) := ⟨_, rfl⟩
  rw [← hW]
  have hkW : ∀ b, b ≠ w1.heap.size → b ≠ w.heap.size + 1 → W.heap[b]? = w4.heap[b]? := fun b h h' => by
    rw [hW, Below.heap_setCell _ _ _ _ h', Below.heap_setCell _ _ _ _ h', Below.heap_setCell _ _ _ _ h', Below.heap_setCell _ _ _ _ h]
  have hWs : W.heap.size = w4.heap.size := by rw [hW]; simp [World.setCell]
  have hB : Below w.heap.size w W := by
    rw [hW]
    refine Below.setCell (Below.setCell (Below.setCell (Below.setCell (hb1.trans (hb4.mono (by omega))) ?_ _) ?_ _) ?_ _) ?_ _
    all_goals (simp; try omega)
  have hg := ho.own_lt
  have hl := ho.ss W (fun b => b < W.heap.size) (fun b h => hkW b (by
    rcases h with h | h
    · have := (hg b h).1; omega
    · omega) (by
    rcases h with h | h
    · have := (hg b h).1; omega
    · omega)) (fun b h => by
    show b < W.heap.size
    rw [hWs]
    rcases h with h | h
    · exact (hg b h).2
    · omega)
  have hel : r.l = [] ++ o.l.take j ++ o.l.drop (j + 1) := by rw [hr, List.nil_append]; exact List.eraseIdx_eq_take_drop_succ ..
  have hrb : r.b = o.b := by rw [hr]
  have hrc : r.code = o.code := by rw [hr]
  refine ⟨A1, c1, A4, c4, by rw [hel, hrb, hrc], ?_, by rw [hel]; exact hl.2, hB⟩
  rw [hrb]
  exact ⟨F1, hs1.keep fun b hb => (hkW b (by have := hF1 b hb; omega) (by have := hF1 b hb; omega)).trans (hk b (hF1 b hb).2), fun b hb => by have := hF1 b hb; rw [hWs]; omega⟩
theorem SS.dropIf {α : Type} [Rep α] {w : World} {S : Nat → Prop} {l : List α} {b off c : Nat} (h : SS w S l (some ⟨b, off, none⟩) c) (k : Nat) (hk : k ≤ l.length) : SS w S (l.drop k) (if c = k then some ⟨b, off, none⟩ else some ⟨b, off + k * Rep.wd α, none⟩) (c - k) := by
  by_cases e : c = k
  · rw [if_pos e]
    obtain ⟨F, ⟨h1, h2, _⟩, hF⟩ := h
    have hl : l.drop k = [] := List.drop_eq_nil_of_le (by omega)
    rw [hl]
    exact ⟨[], ⟨by simp, by omega, .inl ⟨rfl, rfl, fun h => by cases h⟩⟩, by simp⟩
  · rw [if_neg e]; exact h.drop k hk

set_option maxHeartbeats 8000000 in
theorem specFewer_any (o : GOut) (i : Int) (A A' : Option Addr) (c c' : Nat) (w : World) (hn : bulkOut o ≤ 1048576) (hI : I64 i) (h1 : SA w o.b A c) (h2 : SA w o.l A' c') :
    Calls Try.prog 31 #[.agg #[.slice A o.b.length c, .slice A' o.l.length c', .int .i64 o.code], .int .i64 i] w (RetOA w (fewerO o i)) := by
  have hll : o.l.length ≤ 1048576 := by unfold bulkOut bulkLossS at hn; omega
  have hi1 := hI.1; have hi2 := hI.2
  clear hI
  have b0 := bAl (bAl (bRf w) (.cells #[.slice A o.b.length c, .slice A' o.l.length c', .int .i64 o.code] 30)) (.cells #[.slice none 0 0, .slice none 0 0, .int .i64 0] 30)
  have E := Lib.hid (And.intro (h1.below b0) (h2.below b0)); clear h1 h2
  have P1 := Lib.hid (Blk.at (w := w.alloc (.cells #[.slice A o.b.length c, .slice A' o.l.length c', .int .i64 o.code] 30)) (g := w.heap.size + 1) (t := 30) (cs := #[.slice none 0 0, .slice none 0 0, .int .i64 0]) (by simp))
  have B0 := Lib.hid b0; clear b0
  obtain ⟨r, hr⟩ : ∃ r, r = fewerO o i := ⟨_, rfl⟩
  rw [← hr]
  go_enter Try.func31, Try.ntmps31
  go_wp2_with fail
  refine (l28Copy_any o A A' c c' _ hn E.out.1 E.out.2).mono ?_
  rintro e w1 ⟨A1, c1, A2, c2, rfl, ⟨F1, F2, hs1, hs2, hf12⟩, hb1⟩
  have hB1 := Lib.hid (And.intro (bTr B0.out hb1) hb1)
  have Q1 := Lib.hid (P1.out.below hb1)
  have hz1 : w.heap.size + 1 < w1.heap.size := Q1.out.lt
  have hrg : ∀ b, b ∈ F1 ++ F2 → w.heap.size + 1 + 1 ≤ b ∧ b < w1.heap.size := fun b hb => ⟨by have := (hf12.2 b hb).1; simp at this; omega, (hf12.2 b hb).2.lt⟩
  have HS := Lib.hid (And.intro hs1 (And.intro hs2 hrg))
  have hc2 : o.l.length ≤ c2 := hs2.1
  have hc2' : c2 ≤ 9223372036854775807 := by have := hs2.2.1; unfold maxLen at this; exact this
  clear hs1 hs2 hf12 hrg hb1
  by_cases hin : 0 ≤ i ∧ i ≤ (o.l.length : Int) - 1
  · obtain ⟨j, rfl⟩ : ∃ j : Nat, i = j := ⟨i.toNat, by omega⟩
    have hj : j < o.l.length := by omega
    have hd : decide (0 ≤ (j : Int) ∧ (j : Int) ≤ (o.l.length : Int) - 1) = true := decide_eq_true hin
    obtain ⟨g, off, F', rfl, rfl⟩ := HS.out.2.1.plain_block (by omega)
    have hj1 : (j : Int) < o.l.length := by omega
    have hj2 : (0 : Int) ≤ j := by omega
    have hj3 : (j : Int) + 1 ≤ o.l.length := by omega
    have hj4 : (j : Int) ≤ c2 := by omega
    have hj5 : (j : Int) + 1 ≤ c2 := by omega
    have hj6 : (0 : Int) ≤ (j : Int) + 1 := by omega
    have hj7 : (o.l.length : Int) ≤ c2 := by omega
    have hj8 : ((j : Int) + 1).toNat = j + 1 := by omega
    have hj9 : ¬ (c2 = 0) := by omega
    have hjw : IntKind.i64.wrap ((j : Int) + 1) = (j : Int) + 1 := by rw [IntKind.wrap_i64]; omega
    go_wp2_with (go_at_call 66; (refine (l1In_any _ _ _ _).mono ?_; rintro e w2 ⟨rfl, hb2⟩; rw [hd]; have HB2 := Lib.hid (show Below w1.heap.size w1 w2 from bTr (bAl (bRf w1) (.cells #[.slice A1 o.b.length c1, .slice (some ⟨g, off, none⟩) o.l.length c2, .int .i64 o.code] 30)) hb2); have HX := Lib.hid ((Blk.new w1 30 #[.slice A1 o.b.length c1, .slice (some ⟨g, off, none⟩) o.l.length c2, .int .i64 o.code]).below hb2); have HQ := Lib.hid (Q1.out.below HB2.out); obtain ⟨x0, x1, x2⟩ := HX.out.c3; obtain ⟨z0, z1, z2⟩ := HQ.out.c3; have hzx := HX.out.lt; have hzq := HQ.out.lt; have g0 := HQ.out.frozen 0; have g1 := HQ.out.frozen 1; have g2 := HQ.out.frozen 2; have gx := HX.out.frozen 1; clear hb2))
    have htk : (o.l.take j).length = j := by rw [List.length_take]; omega
    have htd : (o.l.drop (j + 1)).length = o.l.length - (j + 1) := by simp
    have HSS := Lib.hid (show SS w2 (fun b => w.heap.size + 1 + 1 ≤ b ∧ b < w1.heap.size) o.l (some ⟨g, off, none⟩) c2 from ⟨_, HS.out.2.1.keep fun b hb => HB2.out.block b (HS.out.2.2 b (List.mem_append_right _ hb)).2, fun b hb => HS.out.2.2 b (List.mem_append_right _ hb)⟩)
    have hw12 : w1.heap.size < w2.heap.size := hzx
    have HTK := Lib.hid (And.intro htk htd); clear htk htd
    have hjn : o.l.length - (j + 1) ≤ 1048576 := by omega
    have hne1 : ¬ (w.heap.size + 1 = w1.heap.size) := by omega
    have hne2 : ¬ (w1.heap.size = w.heap.size + 1) := by omega
    have hw12' : w1.heap.size < w2.heap.size := hw12
    have hxd : w2.drew.cell? ⟨w1.heap.size, 1, none⟩ = some (.slice (some ⟨g, off, none⟩) o.l.length c2) := x1
    have hxa : (w2.drew.alloc (.cells #[] 88)).cell? ⟨w1.heap.size, 1, none⟩ = some (.slice (some ⟨g, off, none⟩) o.l.length c2) := ((HX.out.drew).alloc _).c3.2.1
    have HD := Lib.hid (show ∀ (w3 : World), (∀ b, b < w1.heap.size → w3.heap[b]? = w2.heap[b]?) → SS w3 (fun b => w.heap.size + 1 + 1 ≤ b ∧ b < w1.heap.size) (o.l.drop (j + 1)) (if c2 = j + 1 then some ⟨g, off, none⟩ else some ⟨g, off + (j + 1) * 2, none⟩) (c2 - (j + 1)) from fun w3 h1 => SS.keep (HSS.out.dropIf (j + 1) (by omega)) (fun b h => h1 b h.2) (fun b h => h))
    go_cut [5] from 14 to 26 (fun s5 wx => ∃ w4 A4 c4, s5 = .pointer (some ⟨w1.heap.size, 0, none⟩) ∧ OwnS w4 w2.heap.size 88 (.slice A4 ([] ++ o.l.take j ++ o.l.drop (j + 1)).length c4) ([] ++ o.l.take j ++ o.l.drop (j + 1)) (fun b => w.heap.size + 1 + 1 ≤ b ∧ b < w1.heap.size) ∧ Below w1.heap.size w1 w4 ∧ (∀ b, b < w1.heap.size → w4.heap[b]? = w1.heap[b]?) ∧
      Blk w4 w1.heap.size 30 #[.slice A1 o.b.length c1, .slice (some ⟨g, off, none⟩) o.l.length c2, .int .i64 o.code] ∧ Blk w4 (w.heap.size + 1) 30 #[.slice none 0 0, .slice none 0 0, .int .i64 0] ∧ w2.heap.size ≤ w4.heap.size ∧ wx = w4.setCell ⟨w1.heap.size, 1, none⟩ (.slice A4 (min j o.l.length + (o.l.length - (j + 1))) c4))
    case first =>
      rcases Decidable.em (c2 = j + 1) with hcj | hcj
      · subst hcj
        have hz0 : o.l.length - (j + 1) = 0 := by omega
        have hs1 : (j : Int) ≤ (j : Int) + 1 := by omega
        have hs2 : (o.l.length : Int) ≤ (j : Int) + 1 := by omega
        rw [if_pos rfl, Nat.sub_self] at HD
        go_region_law
          (first
            | ((apply app_step (s := .tmp 14) (x := .tmp 18) (t := 28) (v := .slice (some ⟨w2.heap.size, 0, none⟩) 0 0) (u := .slice (some ⟨g, off, none⟩) j (j + 1)); (try case hgd => exact rfl); (try case ho => exact rfl); (try case hs => exact rfl); (try case hx => exact rfl); (case hrun => (have h := run_app_S (P := Try.prog) (W := w2.drew.alloc (.cells #[] 88)) (α := GLoss) 28 28 w2.heap.size 88 (.agg #[.int .i64 0, .slice none 0 0]) 32 Try.underlying28 infoLoss rfl (by decide) (.slice (some ⟨w2.heap.size, 0, none⟩) 0 0) [] (o.l.take j) (some ⟨g, off, none⟩) (j + 1) (fun b => w.heap.size + 1 + 1 ≤ b ∧ b < w1.heap.size) (fun b => w.heap.size + 1 + 1 ≤ b ∧ b < w1.heap.size) (OwnS.lit0 w2.drew 88 w2.heap.size (Nat.le_refl _) _) (fun b h => ⟨by simp; omega, fun e => by simp [Value.ownBlock] at e; omega⟩) (SS.keep (HSS.out.take j (by omega)) (fun b h => (bAl (bRf w2).drew _).block b (by omega)) (fun b h => h)) (fun F xs _ h => h) (by rw [HTK.out.1]; simp; omega) (by rw [HTK.out.1]; unfold maxLen; simp; omega) (by simp); rw [HTK.out.1] at h; exact h)); rintro v3 w3 ⟨ho3, hbl3, hloc3, hg3⟩; have HO3 := Lib.hid ho3; have HL3 := Lib.hid hbl3; have HX3 := Lib.hid (((HX.out.drew).alloc (.cells #[] 88)).keepB hbl3 hw12); have hx31 := (HX3.out.c3).2.1; have hgx3 := HX3.out.frozen 1; have HSS3 := Lib.hid (show SS w3 (fun b => w.heap.size + 1 + 1 ≤ b ∧ b < w1.heap.size) (o.l.drop (j + 1)) (some ⟨g, off, none⟩) (0) from HD.out w3 (fun b h => (hbl3.block b (by omega)).trans ((bAl (bRf w2).drew (.cells #[] 88)).block b (by omega)))); have HQ3 := Lib.hid (((HQ.out.drew).alloc (.cells #[] 88)).keepB hbl3 hzq); have hzz3 : w2.heap.size + 1 ≤ w3.heap.size := (by have := hbl3.size; simp at this; omega); clear ho3 hbl3 hloc3 hg3))
            | ((apply app_step (s := .tmp 19) (x := .tmp 24) (t := 28) (v := v3) (u := .slice (some ⟨g, off, none⟩) 0 0); (try case hgd => exact rfl); (try case ho => exact rfl); (try case hs => exact rfl); (try case hx => exact rfl); (case hrun => (have h := run_app_S (P := Try.prog) (W := w3) (α := GLoss) 28 28 w2.heap.size 88 (.agg #[.int .i64 0, .slice none 0 0]) 32 Try.underlying28 infoLoss rfl (by decide) v3 ([] ++ o.l.take j) (o.l.drop (j + 1)) (some ⟨g, off, none⟩) (0) (fun b => w.heap.size + 1 + 1 ≤ b ∧ b < w1.heap.size) (fun b => w.heap.size + 1 + 1 ≤ b ∧ b < w1.heap.size) HO3.out (fun b h => ⟨by omega, fun e => by have := (HO3.out.own_lt b e).1; omega⟩) HSS3.out (fun F xs _ h => h) (by simp only [List.nil_append]; rw [HTK.out.1, HTK.out.2]; omega) (by simp only [List.nil_append]; rw [HTK.out.1, HTK.out.2]; unfold maxLen; omega) (by omega); rw [HTK.out.2, hz0] at h; exact h)); rintro v4 w4 ⟨ho4, hbl4, hloc4, hg4⟩; obtain ⟨A4, c4, rfl⟩ := ho4.form; have HO4 := Lib.hid ho4; have HL4 := Lib.hid hbl4; have HX4 := Lib.hid (HX3.out.keepB hbl4 hw12); obtain ⟨y40, y41, y42⟩ := HX4.out.c3; have gy4 := HX4.out.frozen 1; have HQ4 := Lib.hid (HQ3.out.keepB hbl4 hzq); obtain ⟨q40, q41, q42⟩ := HQ4.out.c3; have gq0 := HQ4.out.frozen 0; have gq1 := HQ4.out.frozen 1; have gq2 := HQ4.out.frozen 2; have hzz4 : w3.heap.size ≤ w4.heap.size := hbl4.size; clear ho4 hbl4 hloc4 hg4)))
        all_goals
          go_wp2_with fail
          go_meet
          exact ⟨w4, A4, c4, rfl, HO4.out, (HB2.out.trans ((((bAl (bRf w2).drew (.cells #[] 88)).mono (by omega)).trans (HL3.out.mono (by omega))).trans (HL4.out.mono (by omega)))), (fun b hb => ((HL4.out.block b (by omega)).trans (HL3.out.block b (by omega))).trans (((bAl (bRf w2).drew (.cells #[] 88)).block b (by omega)).trans (HB2.out.block b hb))), HX4.out, HQ4.out, (by omega), by rw [hz0, Nat.add_zero]⟩
      · rw [if_neg hcj] at HD
        have hcj' : ¬ (j + 1 = c2) := fun h => hcj h.symm
        go_region_law
          (first
            | ((apply app_step (s := .tmp 14) (x := .tmp 18) (t := 28) (v := .slice (some ⟨w2.heap.size, 0, none⟩) 0 0) (u := .slice (some ⟨g, off, none⟩) j c2); (try case hgd => exact rfl); (try case ho => exact rfl); (try case hs => exact rfl); (try case hx => exact rfl); (case hrun => (have h := run_app_S (P := Try.prog) (W := w2.drew.alloc (.cells #[] 88)) (α := GLoss) 28 28 w2.heap.size 88 (.agg #[.int .i64 0, .slice none 0 0]) 32 Try.underlying28 infoLoss rfl (by decide) (.slice (some ⟨w2.heap.size, 0, none⟩) 0 0) [] (o.l.take j) (some ⟨g, off, none⟩) c2 (fun b => w.heap.size + 1 + 1 ≤ b ∧ b < w1.heap.size) (fun b => w.heap.size + 1 + 1 ≤ b ∧ b < w1.heap.size) (OwnS.lit0 w2.drew 88 w2.heap.size (Nat.le_refl _) _) (fun b h => ⟨by simp; omega, fun e => by simp [Value.ownBlock] at e; omega⟩) (SS.keep (HSS.out.take j (by omega)) (fun b h => (bAl (bRf w2).drew _).block b (by omega)) (fun b h => h)) (fun F xs _ h => h) (by rw [HTK.out.1]; simp; omega) (by rw [HTK.out.1]; unfold maxLen; simp; omega) (by simp); rw [HTK.out.1] at h; exact h)); rintro v3 w3 ⟨ho3, hbl3, hloc3, hg3⟩; have HO3 := Lib.hid ho3; have HL3 := Lib.hid hbl3; have HX3 := Lib.hid (((HX.out.drew).alloc (.cells #[] 88)).keepB hbl3 hw12); have hx31 := (HX3.out.c3).2.1; have hgx3 := HX3.out.frozen 1; have HSS3 := Lib.hid (show SS w3 (fun b => w.heap.size + 1 + 1 ≤ b ∧ b < w1.heap.size) (o.l.drop (j + 1)) (some ⟨g, off + (j + 1) * 2, none⟩) (c2 - (j + 1)) from HD.out w3 (fun b h => (hbl3.block b (by omega)).trans ((bAl (bRf w2).drew (.cells #[] 88)).block b (by omega)))); have HQ3 := Lib.hid (((HQ.out.drew).alloc (.cells #[] 88)).keepB hbl3 hzq); have hzz3 : w2.heap.size + 1 ≤ w3.heap.size := (by have := hbl3.size; simp at this; omega); clear ho3 hbl3 hloc3 hg3))
            | ((apply app_step (s := .tmp 19) (x := .tmp 24) (t := 28) (v := v3) (u := .slice (some ⟨g, off + (j + 1) * 2, none⟩) (o.l.length - (j + 1)) (c2 - (j + 1))); (try case hgd => exact rfl); (try case ho => exact rfl); (try case hs => exact rfl); (try case hx => exact rfl); (case hrun => (have h := run_app_S (P := Try.prog) (W := w3) (α := GLoss) 28 28 w2.heap.size 88 (.agg #[.int .i64 0, .slice none 0 0]) 32 Try.underlying28 infoLoss rfl (by decide) v3 ([] ++ o.l.take j) (o.l.drop (j + 1)) (some ⟨g, off + (j + 1) * 2, none⟩) (c2 - (j + 1)) (fun b => w.heap.size + 1 + 1 ≤ b ∧ b < w1.heap.size) (fun b => w.heap.size + 1 + 1 ≤ b ∧ b < w1.heap.size) HO3.out (fun b h => ⟨by omega, fun e => by have := (HO3.out.own_lt b e).1; omega⟩) HSS3.out (fun F xs _ h => h) (by simp only [List.nil_append]; rw [HTK.out.1, HTK.out.2]; omega) (by simp only [List.nil_append]; rw [HTK.out.1, HTK.out.2]; unfold maxLen; omega) (by omega); rw [HTK.out.2] at h; exact h)); rintro v4 w4 ⟨ho4, hbl4, hloc4, hg4⟩; obtain ⟨A4, c4, rfl⟩ := ho4.form; have HO4 := Lib.hid ho4; have HL4 := Lib.hid hbl4; have HX4 := Lib.hid (HX3.out.keepB hbl4 hw12); obtain ⟨y40, y41, y42⟩ := HX4.out.c3; have gy4 := HX4.out.frozen 1; have HQ4 := Lib.hid (HQ3.out.keepB hbl4 hzq); obtain ⟨q40, q41, q42⟩ := HQ4.out.c3; have gq0 := HQ4.out.frozen 0; have gq1 := HQ4.out.frozen 1; have gq2 := HQ4.out.frozen 2; have hzz4 : w3.heap.size ≤ w4.heap.size := hbl4.size; clear ho4 hbl4 hloc4 hg4)))
        all_goals
          go_wp2_with fail
          go_meet
          exact ⟨w4, A4, c4, rfl, HO4.out, (HB2.out.trans ((((bAl (bRf w2).drew (.cells #[] 88)).mono (by omega)).trans (HL3.out.mono (by omega))).trans (HL4.out.mono (by omega)))), (fun b hb => ((HL4.out.block b (by omega)).trans (HL3.out.block b (by omega))).trans (((bAl (bRf w2).drew (.cells #[] 88)).block b (by omega)).trans (HB2.out.block b hb))), HX4.out, HQ4.out, (by omega), rfl⟩
    case rest =>
      obtain ⟨w4, A4, c4, rfl, ho4, hb4, hk4, hx4, hq4, hz4, rfl⟩ := hcut
      obtain ⟨y40, y41, y42⟩ := hx4.c3
      obtain ⟨q40, q41, q42⟩ := hq4.c3
      have gy4 := hx4.frozen 1
      have gq0 := hq4.frozen 0
      have gq1 := hq4.frozen 1
      have gq2 := hq4.frozen 2
      have HH := Lib.hid (And.intro ho4 (And.intro hb4 hk4)); clear ho4 hb4 hk4 hx4 hq4
      have hzy := hzx
      go_wp2_with fail
      refine bodyPost_ret (v := .agg #[.slice A1 o.b.length c1, .slice A4 (min j o.l.length + (o.l.length - (j + 1))) c4, .int .i64 o.code]) (by simp [results, Try.results31, go_sem, *]) rfl ?_
      exact fewer_end o j A1 A4 c1 c4 (min j o.l.length + (o.l.length - (j + 1))) w w1 w2 w4 r hz1 hw12 hz4 (by simp) (by rw [hr]; exact if_pos hin) F1 HS.out.1 (fun b hb => HS.out.2.2 b (List.mem_append_left _ hb)) HH.out.2.2 HH.out.1 hB1.out.1 HH.out.2.1
  · have hro : r = o := by rw [hr]; exact if_neg hin
    have R := Lib.hid hro; clear hr hro
    have hd : decide (0 ≤ i ∧ i ≤ (o.l.length : Int) - 1) = false := decide_eq_false hin
    clear hin
    go_wp2_with (go_at_call 66; (refine (l1In_any _ _ _ _).mono ?_; rintro e w2 ⟨rfl, hb2⟩; rw [hd]; have HB2 := Lib.hid (show Below w1.heap.size w1 w2 from bTr (bAl (bRf w1) (.cells #[.slice A1 o.b.length c1, .slice A2 o.l.length c2, .int .i64 o.code] 30)) hb2); have HX := Lib.hid ((Blk.new w1 30 #[.slice A1 o.b.length c1, .slice A2 o.l.length c2, .int .i64 o.code]).below hb2); have HQ := Lib.hid (Q1.out.below HB2.out); obtain ⟨x0, x1, x2⟩ := HX.out.c3; obtain ⟨z0, z1, z2⟩ := HQ.out.c3; have hzx := HX.out.lt; have hzq := HQ.out.lt; have g0 := HQ.out.frozen 0; have g1 := HQ.out.frozen 1; have g2 := HQ.out.frozen 2; clear hb2))
    refine bodyPost_ret (v := .agg #[.slice A1 o.b.length c1, .slice A2 o.l.length c2, .int .i64 o.code]) (by simp [results, Try.results31, go_sem, *]) rfl ?_
    rw [R.out]
    have hk : ∀ b, w.heap.size + 1 + 1 ≤ b ∧ b < w1.heap.size → (((w2.setCell ⟨w.heap.size + 1, 0, none⟩ (.slice A1 o.b.length c1)).setCell ⟨w.heap.size + 1, 1, none⟩ (.slice A2 o.l.length c2)).setCell ⟨w.heap.size + 1, 2, none⟩ (.int .i64 o.code)).heap[b]? = w1.heap[b]? := fun b hb => by
      rw [Below.heap_setCell _ _ _ _ (by simp; omega), Below.heap_setCell _ _ _ _ (by simp; omega), Below.heap_setCell _ _ _ _ (by simp; omega)]
      exact HB2.out.block b hb.2
    have hsz := HB2.out.size
    refine ⟨A1, c1, A2, c2, rfl, ⟨F1, HS.out.1.keep fun b hb => hk b (HS.out.2.2 b (List.mem_append_left _ hb)), fun b hb => ?_⟩, ⟨F2, HS.out.2.1.keep fun b hb => hk b (HS.out.2.2 b (List.mem_append_right _ hb)), fun b hb => ?_⟩, ?_⟩
    · have := (HS.out.2.2 b (List.mem_append_left _ hb)).2; simp [World.setCell]; omega
    · have := (HS.out.2.2 b (List.mem_append_right _ hb)).2; simp [World.setCell]; omega
    · refine Below.setCell (Below.setCell (Below.setCell (hB1.out.1.trans (HB2.out.mono (by omega))) ?_ _) ?_ _) ?_ _
      all_goals (simp; try omega)
end Go.Proofs.Ytblcmajhdndmfaa
