/- Part of a proof: contracts and plain laws. -/
import Derived.Test.YtlfblkekbcfjpaaGreatDoorZ47
set_option linter.unusedVariables false
set_option linter.unusedSimpArgs false
namespace Go.Proofs.YtlfblkekbcfjpaaGreatDoor
open Go Go.RowKit
set_option maxRecDepth 100000
set_option maxHeartbeats 1000000
theorem cntVs_cntL : ∀ (l : List GVal), (∀ v ∈ l, cntV v = 4 * cntG v) → cntVs l = 4 * cntL l
 | [], _ => by simp -implicitDefEqProofs -dsimp [cntVs, cntL]
 | a :: l, h => by
  rw [cntVs, cntL, h a (List.mem_cons_self ..), cntVs_cntL l fun v hv => h v (List.mem_cons_of_mem _ hv)]; omega
theorem cntV_cntG (v : GVal) : cntV v = 4 * cntG v := by
 induction v using GVal.ind with
 | h v ih =>
  rw [cntV_eq, cntVs_cntL v.l fun x hx => by obtain ⟨i, hi, rfl⟩ := List.getElem_of_mem hx; exact ih i hi]
  cases v; simp only [cntG]; omega
theorem admit_cnt (w : Int) (b : List UInt8) (d n c : Int) : cntVs (exG (admitP w b d n c)).l ≤ 4 * b.length := by
 have hz : cntVs (exG (.error 1 : Except Int GVal)).l = 0 := by simp -implicitDefEqProofs -dsimp [exG, zeroG, cntVs]
 have hz' : ∀ e : Int, cntVs (exG (.error e : Except Int GVal)).l = 0 := fun e => by simp -implicitDefEqProofs -dsimp [exG, zeroG, cntVs]
 unfold admitP
 split
 ·rw [hz']; omega
 ·split
  ·rw [hz']; omega
  ·split
   ·rw [hz']; omega
   ·next v hv =>
    have := readP_cnt hv
    split
    ·rw [hz']; omega
    ·have h2 := cntV_cntG v
     rw [cntV_eq] at h2
     simp only [exG]; omega
def RetTA (w : World) (p : Nat → Prop) (r : GVal) (k : Int) (e : Ending) (w' : World) : Prop :=
 ∃ A c, e = .returned (.tuple #[.agg #[.int .i64 r.kind, .int .i64 r.n, .int .i64 r.x, .string r.s, .slice A r.l.length c], .int .i64 k]) ∧ SS w' (fun b => (p b ∨ w.heap.size ≤ b) ∧ b < w'.heap.size) r.l A c ∧ Below w.heap.size w w'
def RetTF (w : World) (r : GVal) (k : Int) (e : Ending) (w' : World) : Prop :=
 ∃ A c, e = .returned (.tuple #[.agg #[.int .i64 r.kind, .int .i64 r.n, .int .i64 r.x, .string r.s, .slice A r.l.length c], .int .i64 k]) ∧ SF w.heap.size w' r.l A c ∧ Below w.heap.size w w'
section
variable {b : List UInt8} {wi d n c k : Int} {A : Option Addr} {cc : Nat} {w : World} {r : GVal}
theorem specAdmit_any {p : Nat → Prop} (hb : b.length ≤ 1073741824) (hx : SS w p b A cc) (ht : TbK Tryz.prog w) (hr : r = exG (admitP wi b d n c)) (hk : k = codeE (admitP wi b d n c)) :
  Calls Tryz.prog 5 #[.int .i64 wi, .slice A b.length cc, .agg #[.int .i64 d, .int .i64 n, .int .i64 c]] w (RetTA w p r k) := by
 obtain ⟨F, hx, hp⟩ := hx
 subst hr hk
 refine (Fn_calls (p := p) (rs := [vV (exG (admitP wi b d n c)), I (codeE (admitP wi b d n c))]) Tryz.func5 rfl rfl (sAdmit hb) rfl rfl (fun i hi => ?_) ht).mono ?_
 ·match i, hi with
  | 0, _ => exact ⟨[], R_mkFlat (x := I wi) rfl⟩
  | 1, _ => exact ⟨F, SlR_Y hx hp⟩
  | 2, _ => exact ⟨[], R_mkFlat (x := .ag [I d, I n, I c]) rfl⟩
 ·rintro e w' ⟨v, us, rfl, hl, hv, hg⟩
  obtain ⟨A', c', h1, h2⟩ := hg.data rfl (q := 0) rfl
  exact ⟨A', c', congrArg Ending.returned (two_us hl hv h1 (hg.int rfl (q := 1) rfl)), h2, hg.below⟩
theorem implAdmit_any (hb : b.length ≤ 1073741824) (hx : SA w b A cc) (ht : TbK Tryz.prog w) (hr : r = exG (admitP wi b d n c)) (hk : k = codeE (admitP wi b d n c)) :
  Calls Tryz.prog 8 #[.int .i64 wi, .slice A b.length cc, .agg #[.int .i64 d, .int .i64 n, .int .i64 c]] w (RetTF w r k) := by
 obtain ⟨F, hx, hp⟩ := hx
 subst hr hk
 refine (Fn_calls (p := (· < w.heap.size)) (rs := [vF 27 (exG (admitP wi b d n c)), I (codeE (admitP wi b d n c))]) Tryz.func8 rfl rfl (iAdmit hb) rfl rfl (fun i hi => ?_) ht).mono ?_
 ·match i, hi with
  | 0, _ => exact ⟨[], R_mkFlat (x := I wi) rfl⟩
  | 1, _ => exact ⟨F, SlR_Y hx hp⟩
  | 2, _ => exact ⟨[], R_mkFlat (x := .ag [I d, I n, I c]) rfl⟩
 ·rintro e w' ⟨v, us, rfl, hl, hv, hg⟩
  obtain ⟨A', c', h1, h2⟩ := hg.tree rfl (q := 0) rfl
  exact ⟨A', c', congrArg Ending.returned (two_us hl hv h1 (hg.int rfl (q := 1) rfl)), h2, hg.below⟩
end
end Go.Proofs.YtlfblkekbcfjpaaGreatDoor
namespace Go.Proofs.YtlfblkekbcfjpaaGreatDoor
open Go.RowKit
set_option maxRecDepth 100000
theorem Blk_at {w : World} {g : Nat} {t : TypeId} {cs : Array Value} (h : g = w.heap.size) : Blk (w.alloc (.cells cs t)) g t cs := h ▸ Blk.new w t cs
theorem set5_blk {w : World} {g : Nat} {t : TypeId} {z0 z1 z2 z3 z4 v0 v1 v2 v3 v4 : Value} (h : Blk w g t #[z0, z1, z2, z3, z4]) : Blk (((((w.setCell ⟨g, 0, none⟩ v0).setCell ⟨g, 1, none⟩ v1).setCell ⟨g, 2, none⟩ v2).setCell ⟨g, 3, none⟩ v3).setCell ⟨g, 4, none⟩ v4) g t #[v0, v1, v2, v3, v4] :=
 ((((h.set_ 0 _).set_ 1 _).set_ 2 _).set_ 3 _).set_ 4 _
theorem set5_heap {w : World} {g : Nat} {v0 v1 v2 v3 v4 : Value} {b : Nat} (h : b ≠ g) : (((((w.setCell ⟨g, 0, none⟩ v0).setCell ⟨g, 1, none⟩ v1).setCell ⟨g, 2, none⟩ v2).setCell ⟨g, 3, none⟩ v3).setCell ⟨g, 4, none⟩ v4).heap[b]? = w.heap[b]? := by
 rw [Below.heap_setCell _ _ _ b h, Below.heap_setCell _ _ _ b h, Below.heap_setCell _ _ _ b h, Below.heap_setCell _ _ _ b h, Below.heap_setCell _ _ _ b h]
theorem set5_size {w : World} {g : Nat} {v0 v1 v2 v3 v4 : Value} : (((((w.setCell ⟨g, 0, none⟩ v0).setCell ⟨g, 1, none⟩ v1).setCell ⟨g, 2, none⟩ v2).setCell ⟨g, 3, none⟩ v3).setCell ⟨g, 4, none⟩ v4).heap.size = w.heap.size := by simp -implicitDefEqProofs -dsimp
theorem set5_below {W w : World} {g : Nat} {v0 v1 v2 v3 v4 : Value} (h : Below W.heap.size W w) (hg : W.heap.size ≤ g) : Below W.heap.size W (((((w.setCell ⟨g, 0, none⟩ v0).setCell ⟨g, 1, none⟩ v1).setCell ⟨g, 2, none⟩ v2).setCell ⟨g, 3, none⟩ v3).setCell ⟨g, 4, none⟩ v4) :=
 Below.setCell (Below.setCell (Below.setCell (Below.setCell (Below.setCell h hg _) hg _) hg _) hg _) hg _
theorem set5_SA {α : Type} [Rep α] {w : World} {g : Nat} {v0 v1 v2 v3 v4 : Value} {S : Nat → Prop} {l : List α} {A : Option Addr} {c : Nat} (h : SS w S l A c) (hS : ∀ b, S b → b ≠ g ∧ b < w.heap.size) : SA (((((w.setCell ⟨g, 0, none⟩ v0).setCell ⟨g, 1, none⟩ v1).setCell ⟨g, 2, none⟩ v2).setCell ⟨g, 3, none⟩ v3).setCell ⟨g, 4, none⟩ v4) l A c :=
 SS.keep h (fun b hb => set5_heap (hS b hb).1) (fun b hb => by rw [set5_size]; exact (hS b hb).2)
set_option maxHeartbeats 2000000 in
theorem fnExactAdmit_walk (wi : Int) (bs : List UInt8) (A0 : Option Addr) (c0 : Nat) (d n c : Int) (w : World) (h0 : SA w bs A0 c0) (ht : TbK Tryz.prog w) (I0 : I64 wi) (I1 : I64 d) (I2 : I64 n) (I3 : I64 c) :
  Calls Tryz.prog 3 #[.int .i64 wi, .slice A0 bs.length c0, .agg #[.int .i64 d, .int .i64 n, .int .i64 c]] w (Ret w (.bool true)) := by
 have b0 := Lib.hid (bAl (bRf w) (.cells #[.int .i64 d, .int .i64 n, .int .i64 c] 24))
 have P0 := Lib.hid (Blk.new w 24 #[.int .i64 d, .int .i64 n, .int .i64 c])
 have H := Lib.hid h0; clear h0
 have T := Lib.hid ht; clear ht
 obtain ⟨r, hr⟩ : ∃ r, r = exG (admitP wi bs d n c) := ⟨_, rfl⟩
 obtain ⟨code, hc⟩ : ∃ k, k = codeE (admitP wi bs d n c) := ⟨_, rfl⟩
 have R := Lib.hid (And.intro hr hc)
 have hcn : cntVs r.l ≤ 4 * bs.length := by rw [hr]; exact admit_cnt wi bs d n c
 clear hr hc
 go_enter Tryz.func3, Tryz.ntmps3
 obtain ⟨zP00, zP01, zP02⟩ := P0.out.c3
 by_cases hlen : (1048576 : Int) < bs.length
 ·go_wp2_with fail
  go_ret
  exact ⟨rfl, b0.out⟩
 have hl0 : bs.length ≤ 1048576 := by omega
 go_upto_region 3 with fail
 go_cut [7, 8] (fun s7 s8 wx => ∃ gy B k, s7 = .pointer (some ⟨gy, 0, none⟩) ∧ s8 = .int .i64 code ∧ w.heap.size < gy ∧ Blk wx gy 27 #[.int .i64 r.kind, .int .i64 r.n, .int .i64 r.x, .string r.s, .slice B r.l.length k] ∧ SA wx r.l B k ∧
  Blk wx w.heap.size 24 #[.int .i64 d, .int .i64 n, .int .i64 c] ∧ Below w.heap.size w wx)
 case first =>
  have BX := b0
  have QX := P0
  go_region_held3 (fun u => u.cell? ⟨w.heap.size, 0, none⟩ = some (.int .i64 d) ∧ u.cell? ⟨w.heap.size, 1, none⟩ = some (.int .i64 n) ∧ u.cell? ⟨w.heap.size, 2, none⟩ = some (.int .i64 c)) (go_keep)
   (first
    | (go_at_call 6; (refine (toByteS_any bs A0 c0 _ hl0 (H.out.below (by first | exact BA.out | exact bAl BA.out _ | exact BL.out | exact bAl BL.out _ | exact BB.out | exact bAl BB.out _ | exact BX.out | exact bAl BX.out _ | exact BX.out.drew | exact bAl BX.out.drew _))).mono ?_; rintro e wB ⟨A1, c1, rfl, hs, hb⟩; have BB := Lib.hid (show Below w.heap.size w wB from bTr (by first | exact BA.out | exact bAl BA.out _ | exact BL.out | exact bAl BL.out _ | exact BB.out | exact bAl BB.out _ | exact BX.out | exact bAl BX.out _ | exact BX.out.drew | exact bAl BX.out.drew _) hb); have QB := Lib.hid (show Blk wB w.heap.size 24 #[.int .i64 d, .int .i64 n, .int .i64 c] from Blk.below (by first | exact QA.out | exact QA.out.alloc _ | exact QL.out | exact QL.out.alloc _ | exact QB.out | exact QB.out.alloc _ | exact QX.out | exact QX.out.alloc _ | exact QX.out.drew | exact QX.out.drew.alloc _) hb); obtain ⟨F1, hs1, hs2⟩ := hs; have SB := Lib.hid hs1; have FB := Lib.hid hs2; have zB := hb.size; have nB := Nat.ne_of_lt QB.out.lt; have mB := Nat.ne_of_gt QB.out.lt; (try (have ZB := Lib.hid (show Blk wB (w.heap.size + 1) 27 #[.int .i64 0, .int .i64 0, .int .i64 0, .string ⟨#[]⟩, .slice none 0 0] from Blk.below (Blk.drew (Blk_at (by simp -implicitDefEqProofs -dsimp))) hb); obtain ⟨fb0, fb1, fb2, fb3, fb4, fb5, fb6, fb7, fb8, fb9, fbt⟩ := ZB.out.z5)); obtain ⟨y0, y1, y2⟩ := QB.out.c3; clear hs1 hs2 hb))
    | (go_at_call 7; (refine (lim_any d n c _ (T.out.below (by first | exact BA.out | exact bAl BA.out _ | exact BL.out | exact bAl BL.out _ | exact BB.out | exact bAl BB.out _ | exact BX.out | exact bAl BX.out _ | exact BX.out.drew | exact bAl BX.out.drew _))).mono ?_; rintro e wL ⟨rfl, hb⟩; have BL := Lib.hid (show Below w.heap.size w wL from bTr (by first | exact BA.out | exact bAl BA.out _ | exact BL.out | exact bAl BL.out _ | exact BB.out | exact bAl BB.out _ | exact BX.out | exact bAl BX.out _ | exact BX.out.drew | exact bAl BX.out.drew _) hb); have QL := Lib.hid (show Blk wL w.heap.size 24 #[.int .i64 d, .int .i64 n, .int .i64 c] from Blk.below (by first | exact QA.out | exact QA.out.alloc _ | exact QL.out | exact QL.out.alloc _ | exact QB.out | exact QB.out.alloc _ | exact QX.out | exact QX.out.alloc _ | exact QX.out.drew | exact QX.out.drew.alloc _) hb); have CL := Lib.hid (show Below wB.heap.size wB wL from by first | exact hb | exact bTr (bAl (bRf _) _) hb); have zL := hb.size; have nL := Nat.ne_of_lt QL.out.lt; have mL := Nat.ne_of_gt QL.out.lt; (first | (have ZL := Lib.hid (ZB.out.below hb); obtain ⟨fl0, fl1, fl2, fl3, fl4, fl5, fl6, fl7, fl8, fl9, flt⟩ := ZL.out.z5) | (have ZL := Lib.hid ((Blk.new wB _ _).below hb); obtain ⟨fl0, fl1, fl2, fl3, fl4, fl5, fl6, fl7, fl8, fl9, flt⟩ := ZL.out.z5) | skip); obtain ⟨x0, x1, x2⟩ := QL.out.c3; clear hb))
    | (go_at_call 5; (refine (specAdmit_any (r := r) (k := code) (p := (· ∈ F1)) (by omega) ⟨F1, SB.out.keep fun b hb => Below.block (by first | exact CL.out | exact bAl CL.out _) b (FB.out.2 b hb).2.lt, fun b hb => hb⟩ (T.out.below (by first | exact BA.out | exact bAl BA.out _ | exact BL.out | exact bAl BL.out _ | exact BB.out | exact bAl BB.out _ | exact BX.out | exact bAl BX.out _ | exact BX.out.drew | exact bAl BX.out.drew _)) R.out.1 R.out.2).mono ?_; rintro e wA ⟨B, k, rfl, hs, hb⟩; have BA := Lib.hid (show Below w.heap.size w wA from bTr (by first | exact BA.out | exact bAl BA.out _ | exact BL.out | exact bAl BL.out _ | exact BB.out | exact bAl BB.out _ | exact BX.out | exact bAl BX.out _ | exact BX.out.drew | exact bAl BX.out.drew _) hb); have QA := Lib.hid (show Blk wA w.heap.size 24 #[.int .i64 d, .int .i64 n, .int .i64 c] from Blk.below (by first | exact QA.out | exact QA.out.alloc _ | exact QL.out | exact QL.out.alloc _ | exact QB.out | exact QB.out.alloc _ | exact QX.out | exact QX.out.alloc _ | exact QX.out.drew | exact QX.out.drew.alloc _) hb); have SA' := Lib.hid hs; have zA := hb.size; (first | (have ZA := Lib.hid (ZL.out.below hb); obtain ⟨fa0, fa1, fa2, fa3, fa4, fa5, fa6, fa7, fa8, fa9, fat⟩ := ZA.out.z5) | (have ZA := Lib.hid ((Blk.new wL _ _).below hb); obtain ⟨fa0, fa1, fa2, fa3, fa4, fa5, fa6, fa7, fa8, fa9, fat⟩ := ZA.out.z5) | skip); obtain ⟨v0, v1, v2⟩ := QA.out.c3; clear hs hb)))
  ·go_wp2_with fail
   go_meet
   exact ⟨wA.heap.size, B, k, rfl, rfl, QA.out.lt, Blk_at rfl, SA.below (SS.keep SA'.out (fun _ _ => rfl) (fun b h => h.2)) (bAl (bRf _) _), QA.out.alloc _, bAl BA.out _⟩
  ·go_wp2_with fail
   go_meet
   exact ⟨wL.heap.size, B, k, rfl, rfl, QL.out.lt, set5_blk ZA.out, set5_SA SA'.out (fun b h => ⟨fun e => by
    have h1 := CL.out.size
    have h2 := h.1
    simp at h2
    rcases h2 with h2 | h2
    ·have := (FB.out.2 b h2).2.lt; omega
    ·omega, h.2⟩), ((((QA.out.far nL _).far nL _).far nL _).far nL _).far nL _, set5_below BA.out (by have := QL.out.lt; omega)⟩
  ·go_wp2_with fail
   go_meet
   exact ⟨wB.heap.size, B, k, rfl, rfl, QB.out.lt, set5_blk ZA.out, set5_SA SA'.out (fun b h => ⟨fun e => by
    have h1 := ZL.out.lt
    have h2 := h.1
    rcases h2 with h2 | h2
    ·have := (FB.out.2 b h2).2.lt; omega
    ·omega, h.2⟩), ((((QA.out.far nB _).far nB _).far nB _).far nB _).far nB _, set5_below BA.out (by have := QB.out.lt; omega)⟩
  ·go_wp2_with fail
   go_meet
   exact ⟨w.heap.size + 1, B, k, rfl, rfl, by omega, set5_blk ZA.out, set5_SA SA'.out (fun b h => ⟨fun e => by
    have h1 := ZL.out.lt
    have h2 := h.1
    rcases h2 with h2 | h2
    ·have := (FB.out.2 b h2).1; simp at this; omega
    ·omega, h.2⟩), ((((QA.out.far (by simp -implicitDefEqProofs -dsimp) _).far (by simp -implicitDefEqProofs -dsimp) _).far (by simp -implicitDefEqProofs -dsimp) _).far (by simp -implicitDefEqProofs -dsimp) _).far (by simp -implicitDefEqProofs -dsimp) _, set5_below BA.out (by omega)⟩
 case rest =>
  obtain ⟨gy, B, k, rfl, rfl, hgy, hY, hS, hL, hb⟩ := hcut
  have b3 := Lib.hid hb
  have Y3 := Lib.hid hY
  have S3 := Lib.hid hS
  have Q3 := Lib.hid hL
  have hw3 := hY.lt
  clear hb hY hS hL zP00 zP01 zP02
  go_wp2_with fail
  refine (toByteS_any bs A0 c0 _ hl0 (H.out.below b3.out)).mono ?_
  rintro e w4 ⟨A4, c4, rfl, ⟨F4, s1, s2⟩, hb⟩
  have b4 := Lib.hid (bTr b3.out hb)
  have Q4 := Lib.hid (Q3.out.below hb)
  have Y4 := Lib.hid (Y3.out.below hb)
  have X4 := Lib.hid (And.intro s1 s2)
  have S4 := Lib.hid (show SS w4 (· < wc.heap.size) r.l B k from SS.keep S3.out (fun b h => hb.block b h) (fun b h => h))
  have hw4 : wc.heap.size ≤ w4.heap.size := hb.size
  have XR := Lib.hid (show ∀ b, b ∈ F4 → wc.heap.size ≤ b ∧ b < w4.heap.size from fun b hb => ⟨(X4.out.2.2 b hb).1, (X4.out.2.2 b hb).2.lt⟩)
  clear s1 s2 hb
  obtain ⟨zQ40, zQ41, zQ42⟩ := Q4.out.c3
  go_wp2_with fail
  refine (lim_any d n c _ (T.out.below b4.out)).mono ?_
  clear zQ40 zQ41 zQ42
  rintro e w5 ⟨rfl, hb⟩
  have U5 := Lib.hid hb
  have b5 := Lib.hid (bTr b4.out hb)
  have hw5 : w4.heap.size ≤ w5.heap.size := hb.size
  clear hb
  go_wp2_with fail
  refine (implAdmit_any (r := r) (k := code) (by omega) (SA.below ⟨F4, X4.out.1, fun b hb => (XR.out b hb).2⟩ U5.out) (T.out.below b5.out) R.out.1 R.out.2).mono ?_
  rintro e w6 ⟨D, m, rfl, ⟨F6, y1, y2⟩, hb⟩
  have B6 := Lib.hid (show Below w4.heap.size w4 (w6.alloc (.cells #[.int .i64 r.kind, .int .i64 r.n, .int .i64 r.x, .string r.s, .slice D r.l.length m] 27)) from bAl (bTr U5.out hb) _)
  have Q6 := Lib.hid (Q4.out.below B6.out)
  have Y6 := Lib.hid (Y4.out.below B6.out)
  have P6 := Lib.hid (Blk.new w6 27 #[.int .i64 r.kind, .int .i64 r.n, .int .i64 r.x, .string r.s, .slice D r.l.length m])
  have hw6 : w5.heap.size ≤ w6.heap.size := hb.size
  have VR := Lib.hid (show ∀ b, b ∈ F6 → w5.heap.size ≤ b ∧ b < w6.heap.size from fun b hb => ⟨(y2.2 b hb).1, (y2.2 b hb).2.lt⟩)
  have V6 := Lib.hid (show SlR (w6.alloc (.cells #[.int .i64 r.kind, .int .i64 r.n, .int .i64 r.x, .string r.s, .slice D r.l.length m] 27)) F6 r.l D m ∧ Fresh w5.heap.size (w6.alloc (.cells #[.int .i64 r.kind, .int .i64 r.n, .int .i64 r.x, .string r.s, .slice D r.l.length m] 27)) F6 from ⟨y1.keep fun b hb => (bAl (bRf w6) _).block b (VR.out b hb).2, y2.keep fun b hb => (bAl (bRf w6) _).block b (VR.out b hb).2⟩)
  have X6 := Lib.hid (show SlR (w6.alloc (.cells #[.int .i64 r.kind, .int .i64 r.n, .int .i64 r.x, .string r.s, .slice D r.l.length m] 27)) F4 bs A4 c4 ∧ Fresh wc.heap.size (w6.alloc (.cells #[.int .i64 r.kind, .int .i64 r.n, .int .i64 r.x, .string r.s, .slice D r.l.length m] 27)) F4 from ⟨X4.out.1.keep fun b hb => B6.out.block b (XR.out b hb).2, X4.out.2.keep fun b hb => B6.out.block b (XR.out b hb).2⟩)
  have S6 := Lib.hid (show SS (w6.alloc (.cells #[.int .i64 r.kind, .int .i64 r.n, .int .i64 r.x, .string r.s, .slice D r.l.length m] 27)) (· < wc.heap.size) r.l B k from SS.keep S4.out (fun b h => B6.out.block b (by have : b < wc.heap.size := h; omega)) (fun b h => h))
  clear y1 y2 hb
  have hW6 : (w6.alloc (.cells #[.int .i64 r.kind, .int .i64 r.n, .int .i64 r.x, .string r.s, .slice D r.l.length m] 27)).heap.size = w6.heap.size + 1 := by simp -implicitDefEqProofs -dsimp
  have HW6 := Lib.hid hW6; clear hW6
  obtain ⟨zY60, zY61, zY62, zY63, zY64⟩ := Y6.out.c5
  obtain ⟨zP60, zP61, zP62, zP63, zP64⟩ := P6.out.c5
  go_wp2_with fail
  refine (eqVal_any r r D B m k _ ⟨F6, V6.out.1, fun b hb => by have := (VR.out b hb).2; have := HW6.out; omega⟩ (SS.keep S6.out (fun _ _ => rfl) (fun b h => by have h : b < wc.heap.size := h; have := HW6.out; show b < _; omega))).mono ?_
  clear zY60 zY61 zY62 zY63 zY64 zP60 zP61 zP62 zP63 zP64
  rintro e w7 ⟨rfl, hb⟩
  rw [decide_eq_true rfl]
  have U7 := Lib.hid hb; clear hb
  go_wp2_with fail
  refine (toByteS_any bs A0 c0 _ hl0 (H.out.below (bTr (bTr b4.out B6.out) U7.out))).mono ?_
  rintro e w8 ⟨A8, c8, rfl, ⟨F8, s1, s2⟩, hb⟩
  have U8 := Lib.hid (show Below (w6.alloc (.cells #[.int .i64 r.kind, .int .i64 r.n, .int .i64 r.x, .string r.s, .slice D r.l.length m] 27)).heap.size (w6.alloc (.cells #[.int .i64 r.kind, .int .i64 r.n, .int .i64 r.x, .string r.s, .slice D r.l.length m] 27)) w8 from bTr U7.out hb)
  have S8 := Lib.hid (show SA w8 bs A8 c8 from ⟨F8, s1, fun b hb => (s2.2 b hb).2.lt⟩)
  clear s1 s2 hb
  go_wp2_with fail
  refine (eqByteS_any bs bs A4 A8 c4 c8 _ (SA.below ⟨F4, X6.out.1, fun b hb => by have := (XR.out b hb).2; have := HW6.out; omega⟩ U8.out) S8.out).mono ?_
  rintro e w9 ⟨rfl, hb⟩
  rw [decide_eq_true rfl]
  have U9 := Lib.hid (show Below (w6.alloc (.cells #[.int .i64 r.kind, .int .i64 r.n, .int .i64 r.x, .string r.s, .slice D r.l.length m] 27)).heap.size (w6.alloc (.cells #[.int .i64 r.kind, .int .i64 r.n, .int .i64 r.x, .string r.s, .slice D r.l.length m] 27)) w9 from bTr U8.out hb)
  clear hb
  go_wp2_with fail
  refine (markByteS_any bs 1 F4 A4 c4 wc.heap.size w9 (by omega) (by omega) (X6.out.1.keep fun b hb => U9.out.block b (by have := (XR.out b hb).2; have := HW6.out; omega)) (X6.out.2.keep fun b hb => U9.out.block b (by have := (XR.out b hb).2; have := HW6.out; omega))).mono ?_
  rintro e w11 ⟨rfl, _, _, hk⟩
  have hz9 : w6.heap.size + 1 ≤ w9.heap.size := by have := U9.out.size; have := HW6.out; omega
  have hz11 : w6.heap.size + 1 ≤ w11.heap.size := by have := hk.2.2.2.1; omega
  have KX := Lib.hid (show ∀ b, b < w6.heap.size + 1 → b ∉ F4 → w11.heap[b]? = (w6.alloc (.cells #[.int .i64 r.kind, .int .i64 r.n, .int .i64 r.x, .string r.s, .slice D r.l.length m] 27)).heap[b]? from fun b h1 h2 => (hk.2.2.2.2 b (by omega) h2).trans (U9.out.block b (by have := HW6.out; omega)))
  have b11 := Lib.hid ((bTr (bTr b4.out B6.out) U9.out).trans (hk.below (by omega) (fun b hb => by have := (XR.out b hb).1; omega)))
  clear hk
  have Q11 := Lib.hid (show Blk w11 _ _ _ from (KX.out w.heap.size (by omega) (fun hm => by have := XR.out _ hm; omega)).trans Q6.out)
  have Y11 := Lib.hid (show Blk w11 _ _ _ from (KX.out gy (by omega) (fun hm => by have := XR.out _ hm; omega)).trans Y6.out)
  have P11 := Lib.hid (show Blk w11 _ _ _ from (KX.out w6.heap.size (by omega) (fun hm => by have := XR.out _ hm; omega)).trans P6.out)
  have V11 := Lib.hid (show SlR w11 F6 r.l D m ∧ Fresh w5.heap.size w11 F6 from ⟨V6.out.1.keep fun b hb => KX.out b (by have := (VR.out b hb).2; omega) (fun hm => by have := (XR.out b hm).2; have := (VR.out b hb).1; omega), V6.out.2.keep fun b hb => KX.out b (by have := (VR.out b hb).2; omega) (fun hm => by have := (XR.out b hm).2; have := (VR.out b hb).1; omega)⟩)
  have S11 := Lib.hid (show SS w11 (· < wc.heap.size) r.l B k from SS.keep S6.out (fun b h => KX.out b (by have h : b < wc.heap.size := h; omega) (fun hm => by have h : b < wc.heap.size := h; have := (XR.out b hm).1; omega)) (fun b h => h))
  have hn11 : decide ((1 : Int) + bs.length < 0) = false := decide_eq_false (by omega)
  obtain ⟨zY110, zY111, zY112, zY113, zY114⟩ := Blk.c5 Y11.out
  obtain ⟨zP110, zP111, zP112, zP113, zP114⟩ := Blk.c5 P11.out
  go_wp2_with fail
  refine (eqVal_any r r D B m k w11 ⟨F6, V11.out.1, fun b hb => by have := (VR.out b hb).2; omega⟩ (SS.keep S11.out (fun _ _ => rfl) (fun b h => by have h : b < wc.heap.size := h; omega))).mono ?_
  clear zY110 zY111 zY112 zY113 zY114 zP110 zP111 zP112 zP113 zP114
  rintro e w12 ⟨rfl, hb⟩
  rw [decide_eq_true rfl]
  have U12 := Lib.hid hb
  have hz12 : w6.heap.size + 1 ≤ w12.heap.size := by have := hb.size; omega
  clear hb
  have P12 := Lib.hid (Blk.below P11.out U12.out)
  obtain ⟨zP120, zP121, zP122, zP123, zP124⟩ := Blk.c5 P12.out
  go_wp2_with fail
  refine (markVal_any r 1 F6 D m w5.heap.size w12 (by omega) (by omega) (V11.out.1.keep fun b hb => U12.out.block b (by have := (VR.out b hb).2; omega)) (V11.out.2.keep fun b hb => U12.out.block b (by have := (VR.out b hb).2; omega)) (by omega)).mono ?_
  clear zP120 zP121 zP122 zP123 zP124
  rintro e w15 ⟨rfl, m1, m2, hk⟩
  have KY := Lib.hid (show ∀ b, b < w6.heap.size + 1 → b ∉ F6 → w15.heap[b]? = w11.heap[b]? from fun b h1 h2 => (hk.2.2.2.2 b (by omega) h2).trans (U12.out.block b (by omega)))
  have hz15 : w6.heap.size + 1 ≤ w15.heap.size := by have := hk.2.2.2.1; omega
  have b15 := Lib.hid ((bTr b11.out U12.out).trans (hk.below (by omega) (fun b hb => by have := (VR.out b hb).1; omega)))
  have M15 := Lib.hid (show SA w15 (markVs r.l 1) D m from ⟨F6, m1, fun b hb => (m2.2 b hb).2.lt⟩)
  clear m1 m2 hk
  have Q15 := Lib.hid (show Blk w15 _ _ _ from (KY.out w.heap.size (by omega) (fun hm => by have := VR.out _ hm; omega)).trans Q11.out)
  have Y15 := Lib.hid (show Blk w15 _ _ _ from (KY.out gy (by omega) (fun hm => by have := VR.out _ hm; omega)).trans Y11.out)
  have P15 := Lib.hid (show Blk w15 _ _ _ from (KY.out w6.heap.size (by omega) (fun hm => by have := VR.out _ hm; omega)).trans P11.out)
  have S15 := Lib.hid (show SS w15 (· < wc.heap.size) r.l B k from SS.keep S11.out (fun b h => KY.out b (by have h : b < wc.heap.size := h; omega) (fun hm => by have h : b < wc.heap.size := h; have := (VR.out b hm).1; omega)) (fun b h => h))
  obtain ⟨zP150, zP151, zP152, zP153, zP154⟩ := Blk.c5 P15.out
  go_wp2_with fail
  refine (heldVal_any r 1 r.kind r.n r.x r.s D m w15 (by omega) (by omega) M15.out (T.out.below b15.out)).mono ?_
  clear zP150 zP151 zP152 zP153 zP154
  rintro e w17 ⟨rfl, hb⟩
  have U17 := Lib.hid hb
  have BZ := Lib.hid (bTr b15.out hb)
  have Q17 := Lib.hid (Blk.below Q15.out hb)
  have Y17 := Lib.hid (Blk.below Y15.out hb)
  have P17 := Lib.hid (Blk.below P15.out hb)
  have S17 := Lib.hid (show SA w17 r.l B k from SA.below (SS.keep S15.out (fun _ _ => rfl) (fun b h => by have h : b < wc.heap.size := h; omega)) hb)
  have M17 := Lib.hid (M15.out.below hb)
  clear hb
  have hn17 : decide ((1 : Int) + cntVs r.l < 0) = false := decide_eq_false (by omega)
  obtain ⟨zQ170, zQ171, zQ172⟩ := Blk.c3 Q17.out
  go_upto_region 22 with fail
  go_cut [15, 16] (fun s15 s16 wx => ∃ g2 B2 k2, s15 = .pointer (some ⟨g2, 0, none⟩) ∧ s16 = .int .i64 code ∧ Blk wx g2 27 #[.int .i64 r.kind, .int .i64 r.n, .int .i64 r.x, .string r.s, .slice B2 r.l.length k2] ∧ SA wx r.l B2 k2 ∧ Below w17.heap.size w17 wx)
  case first =>
   have BX := Lib.hid (bRf w17)
   have QX := Q17
   have H17 := Lib.hid (H.out.below BZ.out)
   have T17 := Lib.hid (T.out.below BZ.out)
   have nX := Nat.ne_of_lt Q17.out.lt
   have mX := Nat.ne_of_gt Q17.out.lt
   go_region_held3 (fun u => u.cell? ⟨w.heap.size, 0, none⟩ = some (.int .i64 d) ∧ u.cell? ⟨w.heap.size, 1, none⟩ = some (.int .i64 n) ∧ u.cell? ⟨w.heap.size, 2, none⟩ = some (.int .i64 c)) (go_keep)
    (first
     | (go_at_call 6; (refine (toByteS_any bs A0 c0 _ hl0 (H17.out.below (by first | exact BA.out | exact bAl BA.out _ | exact BL.out | exact bAl BL.out _ | exact BB.out | exact bAl BB.out _ | exact BX.out | exact bAl BX.out _ | exact BX.out.drew | exact bAl BX.out.drew _))).mono ?_; rintro e wB ⟨A1, c1, rfl, hs, hb⟩; have BB := Lib.hid (show Below w17.heap.size w17 wB from bTr (by first | exact BA.out | exact bAl BA.out _ | exact BL.out | exact bAl BL.out _ | exact BB.out | exact bAl BB.out _ | exact BX.out | exact bAl BX.out _ | exact BX.out.drew | exact bAl BX.out.drew _) hb); have QB := Lib.hid (show Blk wB w.heap.size 24 #[.int .i64 d, .int .i64 n, .int .i64 c] from Blk.below (by first | exact QA.out | exact QA.out.alloc _ | exact QL.out | exact QL.out.alloc _ | exact QB.out | exact QB.out.alloc _ | exact QX.out | exact QX.out.alloc _ | exact QX.out.drew | exact QX.out.drew.alloc _) hb); obtain ⟨F1, hs1, hs2⟩ := hs; have SB := Lib.hid hs1; have FB := Lib.hid hs2; have zB := hb.size; (try (have ZB := Lib.hid (show Blk wB w17.heap.size 27 #[.int .i64 0, .int .i64 0, .int .i64 0, .string ⟨#[]⟩, .slice none 0 0] from Blk.below (Blk.drew (Blk_at rfl)) hb); obtain ⟨fb0, fb1, fb2, fb3, fb4, fb5, fb6, fb7, fb8, fb9, fbt⟩ := ZB.out.z5)); have nB := Nat.ne_of_lt QB.out.lt; have mB := Nat.ne_of_gt QB.out.lt; obtain ⟨y0, y1, y2⟩ := QB.out.c3; clear hs1 hs2 hb))
     | (go_at_call 7; (refine (lim_any d n c _ (T17.out.below (by first | exact BA.out | exact bAl BA.out _ | exact BL.out | exact bAl BL.out _ | exact BB.out | exact bAl BB.out _ | exact BX.out | exact bAl BX.out _ | exact BX.out.drew | exact bAl BX.out.drew _))).mono ?_; rintro e wL ⟨rfl, hb⟩; have BL := Lib.hid (show Below w17.heap.size w17 wL from bTr (by first | exact BA.out | exact bAl BA.out _ | exact BL.out | exact bAl BL.out _ | exact BB.out | exact bAl BB.out _ | exact BX.out | exact bAl BX.out _ | exact BX.out.drew | exact bAl BX.out.drew _) hb); have QL := Lib.hid (show Blk wL w.heap.size 24 #[.int .i64 d, .int .i64 n, .int .i64 c] from Blk.below (by first | exact QA.out | exact QA.out.alloc _ | exact QL.out | exact QL.out.alloc _ | exact QB.out | exact QB.out.alloc _ | exact QX.out | exact QX.out.alloc _ | exact QX.out.drew | exact QX.out.drew.alloc _) hb); have CL := Lib.hid (show Below wB.heap.size wB wL from by first | exact hb | exact bTr (bAl (bRf _) _) hb); have zL := hb.size; (first | (have ZL := Lib.hid (ZB.out.below hb); obtain ⟨fl0, fl1, fl2, fl3, fl4, fl5, fl6, fl7, fl8, fl9, flt⟩ := ZL.out.z5) | (have ZL := Lib.hid ((Blk.new wB _ _).below hb); obtain ⟨fl0, fl1, fl2, fl3, fl4, fl5, fl6, fl7, fl8, fl9, flt⟩ := ZL.out.z5) | skip); have nL := Nat.ne_of_lt QL.out.lt; have mL := Nat.ne_of_gt QL.out.lt; obtain ⟨x0, x1, x2⟩ := QL.out.c3; clear hb))
     | (go_at_call 8; (refine (implAdmit_any (r := r) (k := code) (by omega) (SA.below ⟨F1, SB.out, fun b hb => (FB.out.2 b hb).2.lt⟩ (by first | exact CL.out | exact bAl CL.out _)) (T17.out.below (by first | exact BA.out | exact bAl BA.out _ | exact BL.out | exact bAl BL.out _ | exact BB.out | exact bAl BB.out _ | exact BX.out | exact bAl BX.out _ | exact BX.out.drew | exact bAl BX.out.drew _)) R.out.1 R.out.2).mono ?_; rintro e wA ⟨B2, k2, rfl, hs, hb⟩; have BA := Lib.hid (show Below w17.heap.size w17 wA from bTr (by first | exact BA.out | exact bAl BA.out _ | exact BL.out | exact bAl BL.out _ | exact BB.out | exact bAl BB.out _ | exact BX.out | exact bAl BX.out _ | exact BX.out.drew | exact bAl BX.out.drew _) hb); have QA := Lib.hid (show Blk wA w.heap.size 24 #[.int .i64 d, .int .i64 n, .int .i64 c] from Blk.below (by first | exact QA.out | exact QA.out.alloc _ | exact QL.out | exact QL.out.alloc _ | exact QB.out | exact QB.out.alloc _ | exact QX.out | exact QX.out.alloc _ | exact QX.out.drew | exact QX.out.drew.alloc _) hb); have SA' := Lib.hid hs; have zA := hb.size; (first | (have ZA := Lib.hid (ZL.out.below hb); obtain ⟨fa0, fa1, fa2, fa3, fa4, fa5, fa6, fa7, fa8, fa9, fat⟩ := ZA.out.z5) | (have ZA := Lib.hid ((Blk.new wL _ _).below hb); obtain ⟨fa0, fa1, fa2, fa3, fa4, fa5, fa6, fa7, fa8, fa9, fat⟩ := ZA.out.z5) | skip); obtain ⟨v0, v1, v2⟩ := QA.out.c3; clear hs hb)))
   ·go_wp2_with fail
    go_meet
    exact ⟨wA.heap.size, B2, k2, rfl, rfl, Blk_at rfl, SA.below SA'.out.sa (bAl (bRf _) _), bAl BA.out _⟩
   ·go_wp2_with fail
    go_meet
    obtain ⟨F9, e1, e2⟩ := SA'.out
    exact ⟨wL.heap.size, B2, k2, rfl, rfl, set5_blk ZA.out, set5_SA (S := (· ∈ F9)) ⟨F9, e1, fun b h => h⟩ (fun b h => ⟨fun e => by have := (e2.2 b h).1; simp at this; omega, (e2.2 b h).2.lt⟩), set5_below BA.out BL.out.size⟩
   ·go_wp2_with fail
    go_meet
    obtain ⟨F9, e1, e2⟩ := SA'.out
    exact ⟨wB.heap.size, B2, k2, rfl, rfl, set5_blk ZA.out, set5_SA (S := (· ∈ F9)) ⟨F9, e1, fun b h => h⟩ (fun b h => ⟨fun e => by have := (e2.2 b h).1; have := ZL.out.lt; omega, (e2.2 b h).2.lt⟩), set5_below BA.out BB.out.size⟩
   ·go_wp2_with fail
    go_meet
    obtain ⟨F9, e1, e2⟩ := SA'.out
    exact ⟨w17.heap.size, B2, k2, rfl, rfl, set5_blk ZA.out, set5_SA (S := (· ∈ F9)) ⟨F9, e1, fun b h => h⟩ (fun b h => ⟨fun e => by have := (e2.2 b h).1; have := ZL.out.lt; omega, (e2.2 b h).2.lt⟩), set5_below BA.out (Nat.le_refl _)⟩
  case rest =>
   obtain ⟨g2, B2, k2, rfl, rfl, hY, hS, hb⟩ := hcut
   have U22 := Lib.hid hb
   have S22 := Lib.hid hS
   have Y22 := Lib.hid hY
   have Z22 := Lib.hid (Y17.out.below hb)
   have P22 := Lib.hid (P17.out.below hb)
   clear hb hS hY zQ170 zQ171 zQ172
   obtain ⟨zY220, zY221, zY222, zY223, zY224⟩ := Blk.c5 Y22.out
   obtain ⟨zZ220, zZ221, zZ222, zZ223, zZ224⟩ := Blk.c5 Z22.out
   go_wp2_with fail
   refine (eqVal_any r r B2 B k2 k _ S22.out (S17.out.below U22.out)).mono ?_
   clear zY220 zY221 zY222 zY223 zY224 zZ220 zZ221 zZ222 zZ223 zZ224
   rintro e w23 ⟨rfl, hb⟩
   rw [decide_eq_true rfl]
   have U23 := Lib.hid (show Below w17.heap.size w17 w23 from bTr U22.out hb)
   have P23 := Lib.hid (Blk.below P22.out hb)
   clear hb
   obtain ⟨zP230, zP231, zP232, zP233, zP234⟩ := Blk.c5 P23.out
   go_wp2_with fail
   refine (heldVal_any r 1 r.kind r.n r.x r.s D m w23 (by omega) (by omega) (M17.out.below U23.out) (T.out.below (bTr BZ.out U23.out))).mono ?_
   clear zP230 zP231 zP232 zP233 zP234
   rintro e w26 ⟨rfl, hb⟩
   have b26 := Lib.hid (bTr (bTr BZ.out U23.out) hb); clear hb
   go_wp2_with fail
   go_ret
   exact ⟨rfl, b26.out⟩
end Go.Proofs.YtlfblkekbcfjpaaGreatDoor
