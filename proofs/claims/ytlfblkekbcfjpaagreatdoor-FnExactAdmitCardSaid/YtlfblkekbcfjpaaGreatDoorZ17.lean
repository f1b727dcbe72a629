/- Part of a proof: contracts and plain laws. -/
import Derived.Test.YtlfblkekbcfjpaaGreatDoorZ15
import Derived.Test.YtlfblkekbcfjpaaGreatDoorZ16
import Derived.Test.YtlfblkekbcfjpaaGreatDoorZ14
set_option linter.unusedVariables false
set_option linter.unusedSimpArgs false
namespace Go.Proofs.YtlfblkekbcfjpaaGreatDoor
open Go Go.RowKit Go.Sort
set_option maxRecDepth 100000
theorem below_eq (w : World) : Below w.heap.size w w := Below.refl _ _
theorem below_grow' (w : World) (k : Nat) (os : Array Obj) : Below w.heap.size w (grow (w.drewN k) os) :=
 ⟨rfl, rfl, rfl, by simp -implicitDefEqProofs -dsimp [grow, World.drewN], fun b hb => by simp -implicitDefEqProofs -dsimp [grow, World.drewN, Array.getElem?_append_left hb]⟩
theorem one_res {u : Value} {x : V} {e : Ending} {w w' : World} (h : e = .returned u) (hu : u = valF x) (hb : Below w.heap.size w w') :
  ∃ v us, e = .returned v ∧ us.length = [x].length ∧ resV v us ∧ (∀ i, i < [x].length → [x].getD i .un = .un ∨ us.getD i undef = valF ([x].getD i .un)) ∧ Below w.heap.size w w' :=
 ⟨u, [u], h, rfl, rfl, fun i hi => by cases i with | zero => exact .inr (by simp -implicitDefEqProofs -dsimp [hu]) | succ i => simp at hi, hb⟩
theorem two_res {u u' : Value} {x x' : V} {e : Ending} {w w' : World} (h : e = .returned (.tuple #[u, u'])) (hu : u = valF x) (hu' : x' = .un ∨ u' = valF x') (hb : Below w.heap.size w w') :
  ∃ v us, e = .returned v ∧ us.length = [x, x'].length ∧ resV v us ∧ (∀ i, i < [x, x'].length → [x, x'].getD i .un = .un ∨ us.getD i undef = valF ([x, x'].getD i .un)) ∧ Below w.heap.size w w' :=
 ⟨_, [u, u'], h, rfl, rfl, fun i hi => by
  match i, hi with
  | 0, _ => exact .inr (by simp -implicitDefEqProofs -dsimp [hu])
  | 1, _ => exact hu'.elim (fun hu' => .inl (by simp -implicitDefEqProofs -dsimp [hu'])) (fun hu' => .inr (by simp -implicitDefEqProofs -dsimp [hu'])), hb⟩
abbrev U (n : Int) : V := .sc (.int .u64 n)
abbrev Bs (l : List UInt8) : ByteArray := ⟨l.toArray⟩
theorem gFirst : Tryz.prog.globalNamed "unicode/utf8.first" = some 0 := by kernel_rfl
theorem gAccept : Tryz.prog.globalNamed "unicode/utf8.acceptRanges" = some 1 := by kernel_rfl
theorem gCase : Tryz.prog.globalNamed "unicode.CaseRanges" = some 7 := by kernel_rfl
theorem lIndexByte {s : ByteArray} {c : Int} : Fn Tryz.prog 145 [S s, .sc (.int .u8 c)] [.un, .un] [I (Lib.indexByte s.data.toList c.toNat.toUInt8)] :=
 Fn_bridge Tryz.func145 rfl rfl rfl rfl fun w ht => (Tryz.strings_IndexByte s c w).mono fun e w' h => one_res h.1 rfl (h.2 ▸ below_eq w)
theorem lContains {s : ByteArray} {c : UInt8} : Fn Tryz.prog 146 [S s, S (Bs [c])] [.un, .un] [B (decide (0 ≤ Lib.indexByte s.data.toList c))] :=
 Fn_bridge Tryz.func146 rfl rfl rfl rfl fun w ht => (Tryz.strings_Contains_one s c w).mono fun e w' h => one_res h.1 rfl (h.2 ▸ below_eq w)
theorem lHasPrefix {s p : ByteArray} : Fn Tryz.prog 116 [S s, S p] [.un, .un] [B (Lib.hasPrefix s.data.toList p.data.toList)] :=
 Fn_bridge Tryz.func116 rfl rfl rfl rfl fun w ht => (Tryz.strings_HasPrefix s p w).mono fun e w' h => one_res h.1 rfl (h.2 ▸ below_eq w)
theorem lTrimPrefix {s p : ByteArray} : Fn Tryz.prog 189 [S s, S p] [.un, .un] [S (Bs (Lib.trimPrefix s.data.toList p.data.toList))] :=
 Fn_bridge Tryz.func189 rfl rfl rfl rfl fun w ht => (Tryz.strings_TrimPrefix s p w).mono fun e w' h => one_res h.1 rfl (h.2 ▸ below_eq w)
theorem lTrimLeft {s : ByteArray} {c : UInt8} (hc : c.toNat < 128) : Fn Tryz.prog 151 [S s, S (Bs [c])] [.un, .un] [S (Bs (Lib.trimLeftB s.data.toList c))] :=
 Fn_bridge Tryz.func151 rfl rfl rfl rfl fun w ht => (Tryz.strings_TrimLeft_one s c hc w).mono fun e w' h => one_res h.1 rfl (h.2 ▸ below_eq w)
theorem lMul64 {x y : Nat} (hx : x < 18446744073709551616) (hy : y < 18446744073709551616) : Fn Tryz.prog 171 [U x, U y] [.un, .un] [U ((x * y / 18446744073709551616 : Nat) : Int), U ((x * y % 18446744073709551616 : Nat) : Int)] :=
 Fn_bridge Tryz.func171 rfl rfl rfl rfl fun w ht => (Tryz.bits_Mul64 x y hx hy w).mono fun e w' h => two_res h.1 rfl (.inr rfl) (h.2 ▸ below_eq w)
theorem lLead64 {x : Int} (h0 : 0 ≤ x) (h1 : x ≤ 18446744073709551615) : Fn Tryz.prog 213 [U x] [.un] [I (64 - (Lib.bitLen x.toNat : Int))] :=
 Fn_bridge Tryz.func213 rfl rfl rfl rfl fun w ht => (Tryz.bits_LeadingZeros64 x w h0 h1).mono fun e w' h => one_res h.1 rfl (h.2 ▸ below_eq w)
theorem lDecode {s : ByteArray} : Fn Tryz.prog 179 [S s] [.un] [.sc (.int .i32 (Lib.decodeGo s).1), I (Lib.decodeGo s).2] :=
 Fn_bridge Tryz.func179 rfl rfl rfl rfl fun w ht => (Tryz.utf8_DecodeRuneInString s w (ht.utf _ _ gFirst gAccept)).mono fun e w' h => two_res h.1 rfl (.inr rfl) h.2
theorem lValid {s : ByteArray} (hs : s.size ≤ 9223372036854775807) : Fn Tryz.prog 169 [S s] [.un] [B (Lib.validD s.data.toList)] :=
 Fn_bridge Tryz.func169 rfl rfl rfl rfl fun w ht => (Tryz.utf8_ValidString s w hs (ht.utf _ _ gFirst gAccept)).mono fun e w' h => one_res h.1 rfl h.2
theorem lToLower {s : ByteArray} (hs : s.size < 35184372088832) : Fn Tryz.prog 218 [S s] [.un] [S (Bs (Lib.toLowerD s.data.toList))] :=
 Fn_bridge Tryz.func218 rfl rfl rfl rfl fun w ht => (Tryz.strings_ToLower_any s w hs (ht.cas _ gCase) (ht.utf _ _ gFirst gAccept)).mono fun e w' h => one_res h.1 rfl h.2
theorem lItoa {n : Int} (h0 : -9223372036854775808 ≤ n) (h1 : n ≤ 9223372036854775807) : Fn Tryz.prog 210 [I n] [.un] [S (Bs (Lib.itoa n))] :=
 Fn_bridge Tryz.func210 rfl rfl rfl rfl fun w ht => (Tryz.strconv_Itoa n h0 h1 w ht.pow).mono fun e w' h => one_res h.1 rfl (by obtain ⟨k, os, h2⟩ := h.2; exact h2 ▸ below_grow' w k os)
theorem lAtoi {s : ByteArray} (hl : s.size ≤ 18) : Fn Tryz.prog 152 [S s] [.un] [I ((Lib.atoi s.data.toList).getD 0), .un] := by
 refine Fn_bridge Tryz.func152 rfl rfl rfl rfl fun w ht => ?_
 cases h : Lib.atoi s.data.toList with
 | some n => exact (Tryz.strconv_Atoi s n hl h w).mono fun e w' h => two_res h.1 rfl (.inl rfl) (by obtain ⟨t, h2⟩ := h.2; exact h2 ▸ Lib.bytesWorld_below _ _ _)
 | none =>
  obtain ⟨tp, p, hv⟩ := ht.err
  exact (Tryz.strconv_Atoi_err_var s hl h tp p w hv).mono fun e w' h => by
   obtain ⟨N, h1, _, _, h2⟩ := h
   exact two_res h1 rfl (.inl rfl) h2
end Go.Proofs.YtlfblkekbcfjpaaGreatDoor
namespace Go.Proofs.YtlfblkekbcfjpaaGreatDoor
open Go Go.RowKit
set_option maxRecDepth 100000
set_option maxHeartbeats 4000000
theorem lMarkText {k : Int} (h0 : 0 ≤ k) (h1 : k ≤ 2000000000000000) : Fn Tryz.prog 45 [I k] [.un] [S (markTx k)] :=
 Fn_bridge Tryz.func45 rfl rfl rfl rfl fun w _ => (markText_any k w h0 h1).mono fun e w' h => by
  obtain ⟨he, hb⟩ := h
  exact one_res he rfl hb
theorem cntVs_take : ∀ {l : List GVal} {i : Nat} (h : i < l.length), cntVs (l.take (i + 1)) = cntVs (l.take i) + cntV l[i]
 | a :: l, 0, h => by simp +zeta [cntVs]
 | a :: l, i + 1, h => by
  have := cntVs_take (l := l) (i := i) (by simpa using h)
  simp only [List.take_succ_cons, cntVs, List.getElem_cons_succ, this]; omega
theorem cntVs_take_le : ∀ (l : List GVal) (i : Nat), cntVs (l.take i) ≤ cntVs l
 | [], i => by simp +zeta [cntVs]
 | a :: l, 0 => by simp +zeta [cntVs]
 | a :: l, i + 1 => by
  have := cntVs_take_le l i
  simp only [List.take_succ_cons, cntVs]; omega
theorem markVs_get : ∀ {l : List GVal} {k : Int} {i : Nat} (h : i < l.length), (markVs l k)[i]? = some (markV l[i] (k + cntVs (l.take i)))
 | a :: l, k, 0, h => by simp +zeta [markVs, cntVs]
 | a :: l, k, i + 1, h => by
  have h1 := markVs_get (l := l) (k := k + cntV a) (i := i) (by simpa using h)
  rw [markVs, List.getElem?_cons_succ, h1]
  simp only [List.take_succ_cons, cntVs, List.getElem_cons_succ]
  congr 2; omega
theorem heldValS_ind (v : GVal) : ∀ k : Int, 0 ≤ k → k + cntVs v.l ≤ 1000000000000000 → Fn Tryz.prog 30 [.sl ((markVs v.l k).map vV), I k] [.un, .un] [I (k + cntVs v.l)] := by
 induction v using GVal.ind with
 | h v ih =>
  intro k h0 h1
  have hcl := cntVs_len v.l
  have hml := markVs_len v.l k
  refine Fn_of Tryz.func30 rfl rfl (by simp -implicitDefEqProofs -dsimp) rfl ?_; simp only [Tryz.f30]
  simp -implicitDefEqProofs -dsimp
  refine WL_loop (fun i : Nat => [(0, .sl ((markVs v.l k).map vV)), (1, I (k + cntVs (v.l.take i))), (4, I 0), (5, I i)]) (fun i => v.l.length - i) (fun i => i ≤ v.l.length) 0 (Nat.zero_le _) ?_ ?_
  ·simp -implicitDefEqProofs -dsimp [cntVs]
  ·intro i hi
   by_cases hi2 : i < v.l.length
   ·have hx := markVs_get (k := k) hi2
    have ht := cntVs_take hi2
    have hle := cntVs_take_le v.l (i + 1)
    have hcv := cntV_eq v.l[i]
    rw [markV_eq] at hx
    obtain ⟨kc, hkc⟩ : ∃ kc : Int, kc = k + cntVs (v.l.take i) := ⟨_, rfl⟩
    rw [← hkc] at hx
    have hS := ih i hi2 (kc + 4) (by omega) (by omega)
    have hM := lMarkText (k := kc + 3) (by omega) (by omega)
    have hi3 : i < (markVs v.l k).length := by omega
    have hx2 : (markVs v.l k)[i] = ⟨kc, kc + 1, kc + 2, markTx (kc + 3), markVs v.l[i].l (kc + 4)⟩ := by
     rw [List.getElem?_eq_getElem hi3] at hx; exact Option.some.inj hx
    have w1 : wrK .i64 (kc + 1) = kc + 1 := wrap64_id _ (by omega)
    have w2 : wrK .i64 (kc + 1 + 1) = kc + 2 := by rw [wrap64_id _ (by omega)]; omega
    have w3 : wrK .i64 (kc + 2 + 1) = kc + 3 := by rw [wrap64_id _ (by omega)]; omega
    have w4 : wrK .i64 (kc + 3 + 1) = kc + 4 := by rw [wrap64_id _ (by omega)]; omega
    have w5 : wrK .i64 ((i : Int) + 1) = i + 1 := wrap64_id _ (by omega)
    have hk4 : kc + 4 + (cntVs v.l[i].l : Int) = k + cntVs (v.l.take (i + 1)) := by omega
    rw [hk4] at hS
    have hge : ¬ k + (cntVs (v.l.take (i + 1)) : Int) < 0 := by omega
    have hi4 : (i : Int) < (markVs v.l k).length := by omega
    have hi5 : (i : Int) < v.l.length := by omega
    simp only [← hkc]
    obtain ⟨N, hN⟩ : ∃ N, cntVs (v.l.take (i + 1)) = N := ⟨_, rfl⟩
    rw [hN] at hS hge
    simp -implicitDefEqProofs -dsimp [-head_L, -endOk, hml, hi2, hi3, hi4, hi5, hx2, w1, w2, w3, w4]
    refine wpcall_d hM ?_; simp -implicitDefEqProofs -dsimp [-head_L, -endOk, w4, hml, hi2, hi3, hx, hx2]
    refine ⟨by refine chkOk ?_; kernel_rfl, ?_⟩
    refine wpcall_d hS ?_; simp -implicitDefEqProofs -dsimp [-head_L, -endOk, hge, w5]
    refine ⟨i + 1, by omega, by omega, ?_⟩
    simp -implicitDefEqProofs -dsimp [hN]
   ·obtain rfl : i = v.l.length := by omega
    rw [List.take_length]
    simp -implicitDefEqProofs -dsimp [-head_L, hml]
theorem heldVal_c {v : GVal} {k x1 x2 x3 : Int} {s : ByteArray} (h0 : 0 ≤ k) (h1 : k + cntVs v.l ≤ 1000000000000000) : Fn Tryz.prog 13 [.ag [I x1, I x2, I x3, S s, .sl ((markVs v.l k).map vV)], I k] [.un, .un] [I (k + cntVs v.l)] := by
 have hS := heldValS_ind v k h0 h1
 have hge : ¬ k + (cntVs v.l : Int) < 0 := by omega
 refine Fn_of Tryz.func13 rfl rfl (by simp -implicitDefEqProofs -dsimp) rfl ?_; simp only [Tryz.f13]
 simp -implicitDefEqProofs -dsimp
 refine wpcall_d hS ?_; simp -implicitDefEqProofs -dsimp [hge]
@[simp] theorem tyLim : tyd Tryz.prog 24 = some ⟨.struct, 3, 24, [(0, false, 1), (1, false, 1), (2, false, 1)], 0, [.sc (.int .i64 0), .sc (.int .i64 0), .sc (.int .i64 0)], false⟩ := by kernel_rfl
@[simp] theorem agLim : tAgg Tryz.prog 24 = true := by kernel_rfl
theorem toLimits_c {d n c : Int} : Fn Tryz.prog 7 [.ag [I d, I n, I c]] [.un] [.ag [I d, I n, I c]] := by
 refine Fn_of Tryz.func7 rfl rfl (by simp -implicitDefEqProofs -dsimp) rfl ?_; simp only [Tryz.f7]
 simp -implicitDefEqProofs -dsimp
theorem lim_any (d n c : Int) (w : World) (ht : TbK Tryz.prog w) : Calls Tryz.prog 7 #[.agg #[.int .i64 d, .int .i64 n, .int .i64 c]] w (Ret w (.agg #[.int .i64 d, .int .i64 n, .int .i64 c])) := by
 refine (Fn_calls (p := fun _ => True) (rs := [.ag [I d, I n, I c]]) Tryz.func7 rfl rfl toLimits_c rfl rfl (fun i hi => ?_) ht).mono ?_
 ·match i, hi with
  | 0, _ => exact ⟨[], R_mkFlat (x := .ag [I d, I n, I c]) rfl⟩
 ·rintro e w' ⟨v, us, rfl, hl, hv, hg⟩
  obtain ⟨E, cb, Fc, h⟩ := hg.sim
  obtain ⟨F, h1⟩ := h.tmp 1
  have h2 := R_flat (x := .ag [I d, I n, I c]) rfl (show R _ E F ((#[Value.agg #[.int .i64 d, .int .i64 n, .int .i64 c]] ++ us.toArray).getD 1 undef) from h1)
  rw [us_get _ us 1 0 rfl] at h2
  exact ⟨by rw [one_us hl hv h2]; rfl, hg.below⟩
theorem heldVal_any (v : GVal) (k x1 x2 x3 : Int) (s : ByteArray) (A : Option Addr) (c : Nat) (w : World) (h0 : 0 ≤ k) (h1 : k + cntVs v.l ≤ 1000000000000000) (hx : SA w (markVs v.l k) A c) (ht : TbK Tryz.prog w) :
  Calls Tryz.prog 13 #[.agg #[.int .i64 x1, .int .i64 x2, .int .i64 x3, .string s, .slice A v.l.length c], .int .i64 k] w (Ret w (.int .i64 (k + cntVs v.l))) := by
 obtain ⟨F, hx, hp⟩ := hx
 have hR := SlR_R ⟨0, 0, 0, .empty, markVs v.l k⟩ hx hp
 simp only [markVs_len] at hR
 refine (Fn_calls (p := (· < w.heap.size)) (rs := [I (k + cntVs v.l)]) Tryz.func13 rfl rfl (heldVal_c (x1 := x1) (x2 := x2) (x3 := x3) (s := s) h0 h1) rfl rfl (fun i hi => ?_) ht).mono ?_
 ·match i, hi with
  | 0, _ => exact ⟨F, R_five.2 ⟨_, rfl, R.free (E := (Ew w _).dat) rfl _ (fun b _ o u hu => hu) hR, rfl⟩⟩
  | 1, _ => exact ⟨[], R_mkFlat (x := I k) rfl⟩
 ·rintro e w' ⟨v', us, rfl, hl, hv, hg⟩
  exact ⟨by rw [one_us hl hv (hg.int rfl (q := 0) rfl)], hg.below⟩
end Go.Proofs.YtlfblkekbcfjpaaGreatDoor
