/- Contracts: steps as text, in the program and in the reference. -/
import Derived.Test.YtblcmajhdndmfaaDoorPathT
import Derived.Test.YtblcmajhdndmfaaDoorPlace
import Derived.Test.YtblcmajhdndmfaaDoorCode
namespace Go.Proofs.YtblcmajhdndmfaaDoor
open Go.RowKit
set_option linter.unusedVariables false
set_option maxRecDepth 100000

set_option maxHeartbeats 1000000 in
theorem l8Text_any (v : GVal) (s : GStep) (A : Option Addr) (c : Nat) (w : World) (hn : bulkVal v ≤ 1048576) (hI : I64 s.at_) (hx : SA w v.l A c) (hp : placeI v s ≠ -1) :
    Calls Tryd.prog 55 #[.agg #[.int .i64 v.kind, .int .i64 v.n, .int .i64 v.x, .string v.s, .slice A v.l.length c], .agg #[.int .i64 s.at_, .bool s.name]] w (Ret w (.string (stepT v s))) := by
  obtain ⟨r, hr⟩ : ∃ r, r = stepT v s := ⟨_, rfl⟩
  rw [← hr]
  obtain ⟨q, hq⟩ : ∃ q, q = numS s.at_ := ⟨_, rfl⟩
  have hq20 : q.size ≤ 20 := by rw [hq]; exact numS_size hI
  have z1 : ¬ (9223372036854775807 < 2 + q.size) := by omega
  have z2 : ¬ (9223372036854775807 < 1 + q.size) := by omega
  have z3 : ¬ (9223372036854775807 < 1 + q.size + 1) := by omega
  have z4 : ¬ (9223372036854775807 < 2 + q.size + 1) := by omega
  have B0 := Lib.hid (bAl (bAl (bRf w) (.cells #[.int .i64 v.kind, .int .i64 v.n, .int .i64 v.x, .string v.s, .slice A v.l.length c] 41)) (.cells #[.int .i64 s.at_, .bool s.name] 82))
  have E := Lib.hid (hx.below B0.out); clear hx
  have P0 := Lib.hid ((Blk.new w 41 #[.int .i64 v.kind, .int .i64 v.n, .int .i64 v.x, .string v.s, .slice A v.l.length c]).alloc (.cells #[.int .i64 s.at_, .bool s.name] 82))
  have P1 := Lib.hid (Blk.at (w := w.alloc (.cells #[.int .i64 v.kind, .int .i64 v.n, .int .i64 v.x, .string v.s, .slice A v.l.length c] 41)) (g := w.heap.size + 1) (t := 82) (cs := #[.int .i64 s.at_, .bool s.name]) (by simp))
  by_cases hk : v.kind = 10
  · have hkb : (v.kind == 10) = true := by simp [hk]
    obtain ⟨j, hj, hj2, hj3⟩ := place_name hk hp
    have hj4 : (0 : Int) ≤ j := by omega
    have hj5 : (j : Int) < v.l.length := by omega
    have hr2 : r = if s.name then nameT v.l[j] q ++ ⟨#[126]⟩ else nameT v.l[j] q := by rw [hr, hq]; unfold stepT stepT.zvv; rw [if_pos hk, hj3, List.getElem?_eq_getElem hj2]; rfl
    have hln := bulk_len v
    have hbk := bulk_at hj2
    have hbs := bulk_s v.l[j]
    have y1 : ¬ (9223372036854775807 < 1 + v.l[j].s.size) := by omega
    have y2 : ¬ (9223372036854775807 < 1 + v.l[j].s.size + 1) := by omega
    have HJ := Lib.hid hj3
    have hw3 : wrap64 (j : Int) = (j : Int) := by unfold wrap64; omega
    have hw2 : IntKind.i64.wrap (2 * s.at_) = (j : Int) := by rw [IntKind.wrap_i64]; omega
    clear hr hk hj3 hbk hbs hln
    have HR := Lib.hid hr2; clear hr2
    have HQ := Lib.hid hq; clear hq
    cases hx7 : decide (v.l[j].kind = 7) with
    | true =>
      have hx7' : v.l[j].kind = 7 := by simpa using hx7
      have hxb : (v.l[j].kind == 7) = true := by simp [hx7']
      cases hsn : s.name with
      | true => 
        have hr3 : r = ⟨#[46]⟩ ++ v.l[j].s ++ ⟨#[126]⟩ := by rw [HR.out, hsn]; unfold nameT; rw [if_pos hx7']; rfl
        have HF := Lib.hid (And.intro hr3 (And.intro hx7 hx7')); clear hr3 hx7 hx7'
        rw [hsn] at P0 P1 B0 E
        go_enter Tryd.func55, Tryd.ntmps55
        go_wp2_with fail
        refine (specNumText_any _ _ hI).mono ?_
        rintro e w1 ⟨rfl, hb1⟩
        rw [← HQ.out]
        obtain ⟨p0, p1, p2, p3, p4⟩ := (P0.out.below hb1).c5
        obtain ⟨q0, q1⟩ := (P1.out.below hb1).c2
        obtain ⟨b, off, A', c', rfl, hb, hI', hs', k0, k1, k2, k3, k4⟩ := (E.out.below hb1).val_at hj2
        have HB := Lib.hid (bTr B0.out hb1)
        clear hb1 hs' hI'
        go_wp2_with fail
        go_ret
        exact ⟨by rw [HF.out.1]; rfl, HB.out⟩
      | false => 
        have hr3 : r = ⟨#[46]⟩ ++ v.l[j].s := by rw [HR.out, hsn]; unfold nameT; rw [if_pos hx7']; rfl
        have HF := Lib.hid (And.intro hr3 (And.intro hx7 hx7')); clear hr3 hx7 hx7'
        rw [hsn] at P0 P1 B0 E
        go_enter Tryd.func55, Tryd.ntmps55
        go_wp2_with fail
        refine (specNumText_any _ _ hI).mono ?_
        rintro e w1 ⟨rfl, hb1⟩
        rw [← HQ.out]
        obtain ⟨p0, p1, p2, p3, p4⟩ := (P0.out.below hb1).c5
        obtain ⟨q0, q1⟩ := (P1.out.below hb1).c2
        obtain ⟨b, off, A', c', rfl, hb, hI', hs', k0, k1, k2, k3, k4⟩ := (E.out.below hb1).val_at hj2
        have HB := Lib.hid (bTr B0.out hb1)
        clear hb1 hs' hI'
        go_wp2_with fail
        go_ret
        exact ⟨by rw [HF.out.1]; rfl, HB.out⟩
    | false =>
      have hx7' : v.l[j].kind ≠ 7 := by simpa using hx7
      have hxb : (v.l[j].kind == 7) = false := by simp [hx7']
      cases hsn : s.name with
      | true => 
        have hr3 : r = ⟨#[46, 35]⟩ ++ q ++ ⟨#[126]⟩ := by rw [HR.out, hsn]; unfold nameT; rw [if_neg hx7']; rfl
        have HF := Lib.hid (And.intro hr3 (And.intro hx7 hx7')); clear hr3 hx7 hx7'
        rw [hsn] at P0 P1 B0 E
        go_enter Tryd.func55, Tryd.ntmps55
        go_wp2_with fail
        refine (specNumText_any _ _ hI).mono ?_
        rintro e w1 ⟨rfl, hb1⟩
        rw [← HQ.out]
        obtain ⟨p0, p1, p2, p3, p4⟩ := (P0.out.below hb1).c5
        obtain ⟨q0, q1⟩ := (P1.out.below hb1).c2
        obtain ⟨b, off, A', c', rfl, hb, hI', hs', k0, k1, k2, k3, k4⟩ := (E.out.below hb1).val_at hj2
        have HB := Lib.hid (bTr B0.out hb1)
        clear hb1 hs' hI'
        go_wp2_with fail
        go_ret
        exact ⟨by rw [HF.out.1]; rfl, HB.out⟩
      | false => 
        have hr3 : r = ⟨#[46, 35]⟩ ++ q := by rw [HR.out, hsn]; unfold nameT; rw [if_neg hx7']; rfl
        have HF := Lib.hid (And.intro hr3 (And.intro hx7 hx7')); clear hr3 hx7 hx7'
        rw [hsn] at P0 P1 B0 E
        go_enter Tryd.func55, Tryd.ntmps55
        go_wp2_with fail
        refine (specNumText_any _ _ hI).mono ?_
        rintro e w1 ⟨rfl, hb1⟩
        rw [← HQ.out]
        obtain ⟨p0, p1, p2, p3, p4⟩ := (P0.out.below hb1).c5
        obtain ⟨q0, q1⟩ := (P1.out.below hb1).c2
        obtain ⟨b, off, A', c', rfl, hb, hI', hs', k0, k1, k2, k3, k4⟩ := (E.out.below hb1).val_at hj2
        have HB := Lib.hid (bTr B0.out hb1)
        clear hb1 hs' hI'
        go_wp2_with fail
        go_ret
        exact ⟨by rw [HF.out.1]; rfl, HB.out⟩
  · have hkb : (v.kind == 10) = false := by simp [hk]
    by_cases hk2 : v.kind = 11
    · have hkb2 : (v.kind == 11) = true := by simp [hk2]
      have hr2 : r = ⟨#[33]⟩ := by rw [hr]; unfold stepT; rw [if_neg hk, if_pos hk2]
      clear hr hk hk2
      have HR := Lib.hid hr2; clear hr2
      go_enter Tryd.func55, Tryd.ntmps55
      go_wp2_with fail
      go_ret
      exact ⟨by rw [HR.out]; rfl, B0.out⟩
    · have hkb2 : (v.kind == 11) = false := by simp [hk2]
      have hr2 : r = ⟨#[91]⟩ ++ q ++ ⟨#[93]⟩ := by rw [hr, hq]; unfold stepT; rw [if_neg hk, if_neg hk2]
      clear hr hk hk2
      have HR := Lib.hid hr2; clear hr2
      have HQ := Lib.hid hq; clear hq
      go_enter Tryd.func55, Tryd.ntmps55
      go_wp2_with fail
      refine (specNumText_any _ _ hI).mono ?_
      rintro e w1 ⟨rfl, hb1⟩
      rw [← HQ.out]
      have HB := Lib.hid (bTr B0.out hb1); clear hb1
      go_wp2_with fail
      go_ret
      exact ⟨by rw [HR.out]; rfl, HB.out⟩

set_option maxHeartbeats 1000000 in
theorem stepText_any (v : GVal) (s : GStep) (A : Option Addr) (c : Nat) (w : World) (hn : bulkVal v ≤ 1048576) (hI : I64 s.at_) (hx : SA w v.l A c) (hp : placeI v s ≠ -1) (ht : Tab w) :
    Calls Tryd.prog 59 #[.agg #[.int .i64 v.kind, .int .i64 v.n, .int .i64 v.x, .string v.s, .slice A v.l.length c], .agg #[.int .i64 s.at_, .bool s.name]] w (Ret w (.string (stepT v s))) := by
  obtain ⟨r, hr⟩ : ∃ r, r = stepT v s := ⟨_, rfl⟩
  rw [← hr]
  obtain ⟨q, hq⟩ : ∃ q, q = numS s.at_ := ⟨_, rfl⟩
  have hq20 : q.size ≤ 20 := by rw [hq]; exact numS_size hI
  have z1 : ¬ (9223372036854775807 < 2 + q.size) := by omega
  have z2 : ¬ (9223372036854775807 < 1 + q.size) := by omega
  have z3 : ¬ (9223372036854775807 < 1 + q.size + 1) := by omega
  have z4 : ¬ (9223372036854775807 < 2 + q.size + 1) := by omega
  have B0 := Lib.hid (bAl (bAl (bRf w) (.cells #[.int .i64 v.kind, .int .i64 v.n, .int .i64 v.x, .string v.s, .slice A v.l.length c] 41)) (.cells #[.int .i64 s.at_, .bool s.name] 82))
  have E := Lib.hid (hx.below B0.out); clear hx
  have P0 := Lib.hid ((Blk.new w 41 #[.int .i64 v.kind, .int .i64 v.n, .int .i64 v.x, .string v.s, .slice A v.l.length c]).alloc (.cells #[.int .i64 s.at_, .bool s.name] 82))
  have P1 := Lib.hid (Blk.at (w := w.alloc (.cells #[.int .i64 v.kind, .int .i64 v.n, .int .i64 v.x, .string v.s, .slice A v.l.length c] 41)) (g := w.heap.size + 1) (t := 82) (cs := #[.int .i64 s.at_, .bool s.name]) (by simp))
  have HT := Lib.hid ht; clear ht
  by_cases hk : v.kind = 10
  · have hkb : (v.kind == 10) = true := by simp [hk]
    obtain ⟨j, hj, hj2, hj3⟩ := place_name hk hp
    have hj4 : (0 : Int) ≤ j := by omega
    have hj5 : (j : Int) < v.l.length := by omega
    have hr2 : r = if s.name then nameT v.l[j] q ++ ⟨#[126]⟩ else nameT v.l[j] q := by rw [hr, hq]; unfold stepT stepT.zvv; rw [if_pos hk, hj3, List.getElem?_eq_getElem hj2]; rfl
    have hln := bulk_len v
    have hbk := bulk_at hj2
    have hbs := bulk_s v.l[j]
    have y1 : ¬ (9223372036854775807 < 1 + v.l[j].s.size) := by omega
    have y2 : ¬ (9223372036854775807 < 1 + v.l[j].s.size + 1) := by omega
    have HJ := Lib.hid hj3
    have hw3 : wrap64 (j : Int) = (j : Int) := by unfold wrap64; omega
    have hw2 : IntKind.i64.wrap (2 * s.at_) = (j : Int) := by rw [IntKind.wrap_i64]; omega
    clear hr hk hj3 hbk hbs hln
    have HR := Lib.hid hr2; clear hr2
    have HQ := Lib.hid hq; clear hq
    cases hx7 : decide (v.l[j].kind = 7) with
    | true =>
      have hx7' : v.l[j].kind = 7 := by simpa using hx7
      have hxb : (v.l[j].kind == 7) = true := by simp [hx7']
      cases hsn : s.name with
      | true => 
        have hr3 : r = ⟨#[46]⟩ ++ v.l[j].s ++ ⟨#[126]⟩ := by rw [HR.out, hsn]; unfold nameT; rw [if_pos hx7']; rfl
        have HF := Lib.hid (And.intro hr3 (And.intro hx7 hx7')); clear hr3 hx7 hx7'
        rw [hsn] at P0 P1 B0 E
        go_enter Tryd.func59, Tryd.ntmps59
        go_wp2_with fail
        refine (implNumText_any _ _ hI (HT.out.below (bAl (bAl (bRf w) _) _))).mono ?_
        rintro e w1 ⟨rfl, hb1⟩
        rw [← HQ.out]
        obtain ⟨p0, p1, p2, p3, p4⟩ := (P0.out.below hb1).c5
        obtain ⟨q0, q1⟩ := (P1.out.below hb1).c2
        obtain ⟨b, off, A', c', rfl, hb, hI', hs', k0, k1, k2, k3, k4⟩ := (E.out.below hb1).val_at hj2
        have HB := Lib.hid (bTr B0.out hb1)
        have hz1 : w.heap.size + 1 < w1.heap.size := (by have := hb1.size; simp at this; omega)
        have hz2 : w.heap.size < w1.heap.size := by omega
        clear hb1 hs' hI'
        go_wp2_with fail
        go_ret
        exact ⟨by rw [HF.out.1]; rfl, bAl HB.out _⟩
      | false => 
        have hr3 : r = ⟨#[46]⟩ ++ v.l[j].s := by rw [HR.out, hsn]; unfold nameT; rw [if_pos hx7']; rfl
        have HF := Lib.hid (And.intro hr3 (And.intro hx7 hx7')); clear hr3 hx7 hx7'
        rw [hsn] at P0 P1 B0 E
        go_enter Tryd.func59, Tryd.ntmps59
        go_wp2_with fail
        refine (implNumText_any _ _ hI (HT.out.below (bAl (bAl (bRf w) _) _))).mono ?_
        rintro e w1 ⟨rfl, hb1⟩
        rw [← HQ.out]
        obtain ⟨p0, p1, p2, p3, p4⟩ := (P0.out.below hb1).c5
        obtain ⟨q0, q1⟩ := (P1.out.below hb1).c2
        obtain ⟨b, off, A', c', rfl, hb, hI', hs', k0, k1, k2, k3, k4⟩ := (E.out.below hb1).val_at hj2
        have HB := Lib.hid (bTr B0.out hb1)
        have hz1 : w.heap.size + 1 < w1.heap.size := (by have := hb1.size; simp at this; omega)
        have hz2 : w.heap.size < w1.heap.size := by omega
        clear hb1 hs' hI'
        go_wp2_with fail
        go_ret
        exact ⟨by rw [HF.out.1]; rfl, bAl HB.out _⟩
    | false =>
      have hx7' : v.l[j].kind ≠ 7 := by simpa using hx7
      have hxb : (v.l[j].kind == 7) = false := by simp [hx7']
      cases hsn : s.name with
      | true => 
        have hr3 : r = ⟨#[46, 35]⟩ ++ q ++ ⟨#[126]⟩ := by rw [HR.out, hsn]; unfold nameT; rw [if_neg hx7']; rfl
        have HF := Lib.hid (And.intro hr3 (And.intro hx7 hx7')); clear hr3 hx7 hx7'
        rw [hsn] at P0 P1 B0 E
        go_enter Tryd.func59, Tryd.ntmps59
        go_wp2_with fail
        refine (implNumText_any _ _ hI (HT.out.below (bAl (bAl (bRf w) _) _))).mono ?_
        rintro e w1 ⟨rfl, hb1⟩
        rw [← HQ.out]
        obtain ⟨p0, p1, p2, p3, p4⟩ := (P0.out.below hb1).c5
        obtain ⟨q0, q1⟩ := (P1.out.below hb1).c2
        obtain ⟨b, off, A', c', rfl, hb, hI', hs', k0, k1, k2, k3, k4⟩ := (E.out.below hb1).val_at hj2
        have HB := Lib.hid (bTr B0.out hb1)
        have hz1 : w.heap.size + 1 < w1.heap.size := (by have := hb1.size; simp at this; omega)
        have hz2 : w.heap.size < w1.heap.size := by omega
        clear hb1 hs' hI'
        go_wp2_with fail
        go_ret
        exact ⟨by rw [HF.out.1]; rfl, bAl HB.out _⟩
      | false => 
        have hr3 : r = ⟨#[46, 35]⟩ ++ q := by rw [HR.out, hsn]; unfold nameT; rw [if_neg hx7']; rfl
        have HF := Lib.hid (And.intro hr3 (And.intro hx7 hx7')); clear hr3 hx7 hx7'
        rw [hsn] at P0 P1 B0 E
        go_enter Tryd.func59, Tryd.ntmps59
        go_wp2_with fail
        refine (implNumText_any _ _ hI (HT.out.below (bAl (bAl (bRf w) _) _))).mono ?_
        rintro e w1 ⟨rfl, hb1⟩
        rw [← HQ.out]
        obtain ⟨p0, p1, p2, p3, p4⟩ := (P0.out.below hb1).c5
        obtain ⟨q0, q1⟩ := (P1.out.below hb1).c2
        obtain ⟨b, off, A', c', rfl, hb, hI', hs', k0, k1, k2, k3, k4⟩ := (E.out.below hb1).val_at hj2
        have HB := Lib.hid (bTr B0.out hb1)
        have hz1 : w.heap.size + 1 < w1.heap.size := (by have := hb1.size; simp at this; omega)
        have hz2 : w.heap.size < w1.heap.size := by omega
        clear hb1 hs' hI'
        go_wp2_with fail
        go_ret
        exact ⟨by rw [HF.out.1]; rfl, bAl HB.out _⟩
  · have hkb : (v.kind == 10) = false := by simp [hk]
    by_cases hk2 : v.kind = 11
    · have hkb2 : (v.kind == 11) = true := by simp [hk2]
      have hr2 : r = ⟨#[33]⟩ := by rw [hr]; unfold stepT; rw [if_neg hk, if_pos hk2]
      clear hr hk hk2
      have HR := Lib.hid hr2; clear hr2
      go_enter Tryd.func59, Tryd.ntmps59
      go_wp2_with fail
      go_ret
      exact ⟨by rw [HR.out]; rfl, B0.out⟩
    · have hkb2 : (v.kind == 11) = false := by simp [hk2]
      have hr2 : r = ⟨#[91]⟩ ++ q ++ ⟨#[93]⟩ := by rw [hr, hq]; unfold stepT; rw [if_neg hk, if_neg hk2]
      clear hr hk hk2
      have HR := Lib.hid hr2; clear hr2
      have HQ := Lib.hid hq; clear hq
      go_enter Tryd.func59, Tryd.ntmps59
      go_wp2_with fail
      refine (implNumText_any _ _ hI (HT.out.below (bAl (bAl (bRf w) _) _))).mono ?_
      rintro e w1 ⟨rfl, hb1⟩
      rw [← HQ.out]
      have HB := Lib.hid (bTr B0.out hb1); clear hb1
      go_wp2_with fail
      go_ret
      exact ⟨by rw [HR.out]; rfl, HB.out⟩
end Go.Proofs.YtblcmajhdndmfaaDoor
