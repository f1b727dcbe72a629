/- Part of a proof: contracts and plain laws. -/
import Derived.Test.YtlfblkekbcfjpaaGreatDoorZ12
import Derived.BigQuiet
import Derived.Deep.QuietTactic
import Derived.Deep.RegionHeld3
import Derived.StillTailTactics
import Derived.Test.YtlfblkekbcfjpaaGreatDoorProg
set_option linter.unusedVariables false
set_option linter.unusedSimpArgs false
namespace Go.Proofs.YtlfblkekbcfjpaaGreatDoor
open Go.RowKit
set_option maxRecDepth 100000
theorem run_mk {P : Program} {t e : TypeId} {z : Value} {size bytes : Nat} (ht : P.underlying t = some (.slice e)) (hinfo : (P.info? e).map (fun i => (i.zero, i.size, i.bytes)) = some (some z, size, bytes))
  (n : Nat) (hbytes : bytes * n ≤ 281474976710656) (h63 : n ≤ 9223372036854775807) (w : World) :
  (Instr.makeSlice t (.int .i64 (n : Int)) (.int .i64 (n : Int))).run P w = .ok (.slice (some ⟨w.heap.size, 0, none⟩) n n) (w.alloc (.cells (madeCells z.cells (n * size)) e)) := by
 obtain ⟨i, hi, hz, hsz, hby⟩ := info_parts hinfo
 subst hsz hby
 have hb : (i.bytes : Int) * (n : Int) ≤ 281474976710656 := by
  have h : ((i.bytes * n : Nat) : Int) ≤ 281474976710656 := by omega
  rwa [Int.natCast_mul] at h
 have hr := run_make (P := P) w t e i z ht hi hz .i64 .i64 n n (by omega) (by omega) hb (by omega)
 simp only [Int.toNat_natCast] at hr
 exact hr
theorem OwnF.lit1 {α : Type} [Rep α] {w : World} {base : Nat} {a : α} {cs : List Value} (h : RF base w a cs) (t : TypeId) (hb : base ≤ w.heap.size) : OwnF (w.alloc (.cells cs.toArray t)) base t (.slice (some ⟨w.heap.size, 0, none⟩) 1 1) [a] := by
 obtain ⟨F, h1, h2⟩ := h
 have hlt : ∀ b, b ∈ F → b < w.heap.size := fun b hb => (h2.2 b hb).2.lt
 refine ⟨F, ⟨cs, World.ownsRow_lit w cs.toArray 1 hb (by unfold maxLen; omega) (by simp -implicitDefEqProofs -dsimp [Rep.len h1]), Elems.single (Rep.keep h1 fun b hb => Below.heap_alloc w _ b (hlt b hb)), fun g hg hm => ?_⟩, h2.below (bAl (bRf w) _)⟩
 simp only [Value.ownBlock, Option.some.injEq] at hg
 have := hlt g hm; omega
theorem infoByte : (Tryz.prog.info? 5).map (fun i => (i.zero, i.size, i.bytes)) = some (some (.int .u8 0), 1, 1) := by kernel_rfl
theorem toByteS_any (xs : List UInt8) (A : Option Addr) (c : Nat) (w : World) (hn : xs.length ≤ 1048576) (hx : SA w xs A c) :
  Calls Tryz.prog 6 #[.slice A xs.length c] w (RetS w xs) := by
 have hmk := run_mk (P := Tryz.prog) Tryz.underlying22 infoByte xs.length (by omega) (by omega)
 have O0 := Lib.hid (OwnF.made1 rfl (z := .int .u8 0) (a := (0 : UInt8)) w 5 xs.length (fun _ => ⟨rfl, rfl⟩) (by unfold maxLen; omega))
 have E := Lib.hid hx; clear hx
 have b0 := bAl (bRf w) (.cells (madeCells (Value.int .u8 0).cells xs.length) 5)
 go_enter Tryz.func6, Tryz.ntmps6
 go_wp2_with fail
 clear hmk
 go_loopg [4] xs.length (fun gk i wr => ∃ k : Nat, k ≤ xs.length ∧ i = .int .i64 k ∧ gk = xs.length - k ∧ OwnF wr w.heap.size 5 (.slice (some ⟨w.heap.size, 0, none⟩) xs.length xs.length) (fillL xs 0 k) ∧ Below w.heap.size w wr)
 case atStart => exact ⟨0, by omega, rfl, by omega, by rw [fillL_zero]; exact O0.out, b0⟩
 case round =>
  obtain ⟨k, hk, rfl, rfl, hown, hbel⟩ := hrel
  by_cases hlt : k < xs.length
  ·obtain ⟨b, off, rfl, hb, k0⟩ := (E.out.below hbel).byte_at hlt
   obtain ⟨⟨v0, g0⟩, f0⟩ := hown.fact1 rfl (i := k) (by rw [fillL_len _ _ hk]; exact hlt)
   go_wp2_with fail
   go_roundg (xs.length - (k + 1))
   case measure => omega
   case rel =>
    have hs := hown.stored1 rfl (bRf wr) (i := k) (by rw [fillL_len _ _ hk]; exact hlt) (RF.byte (base := wr.heap.size) (w := wr) xs[k])
    rw [fillL_set _ _ hlt] at hs
    exact ⟨k + 1, by omega, by go_num, rfl, hs, bStores hbel (Nat.le_refl _) hbel.size k [_]⟩
  ·have e : k = xs.length := by omega
   go_wp2_with fail
   go_ret
   rw [e, fillL_all] at hown
   exact ⟨_, _, rfl, hown.sf.2, hbel⟩
theorem eqByteS_any (xs ys : List UInt8) (A A' : Option Addr) (c c' : Nat) (w : World) (hx : SA w xs A c) (hy : SA w ys A' c') :
  Calls Tryz.prog 10 #[.slice A xs.length c, .slice A' ys.length c'] w (Ret w (.bool (decide (xs = ys)))) := by
 obtain ⟨r, hr⟩ : ∃ r, r = decide (xs = ys) := ⟨_, rfl⟩
 rw [← hr]
 have R := Lib.hid hr; clear hr
 have hl : xs.length ≤ 9223372036854775807 := by have := hx.len; unfold maxLen at this; omega
 have hl' : ys.length ≤ 9223372036854775807 := by have := hy.len; unfold maxLen at this; omega
 have E := Lib.hid (And.intro hx hy); clear hx hy
 by_cases he : xs.length = ys.length
 ·have he' : ((xs.length : Int) != ys.length) = false := by simp -implicitDefEqProofs -dsimp [he]
  have HE := Lib.hid he; clear he
  go_enter Tryz.func10, Tryz.ntmps10
  go_wp2_with fail
  go_loopg [5] xs.length (fun gk i wr => ∃ k : Nat, k ≤ xs.length ∧ i = .int .i64 k ∧ gk = xs.length - k ∧ Hid (xs.take k = ys.take k) ∧ Below w.heap.size w wr)
  case atStart => exact ⟨0, by omega, rfl, by omega, rfl, bRf w⟩
  case round =>
   obtain ⟨k, hk, rfl, rfl, hT, hbel⟩ := hrel
   by_cases hlt : k < xs.length
   ·obtain ⟨b, off, rfl, hb, k0⟩ := (E.out.1.below hbel).byte_at hlt
    have hlt' : k < ys.length := HE.out ▸ hlt
    obtain ⟨b', off', rfl, hb', k0'⟩ := (E.out.2.below hbel).byte_at hlt'
    have hi1 : (k : Int) < xs.length := by omega
    have hi2 : (k : Int) < ys.length := by omega
    have hi3 : (0 : Int) ≤ k := by omega
    rcases Decidable.em (xs[k] = ys[k]) with hq | hq
    ·have HQ := Lib.hid hq; clear hq
     have hne : ((xs[k].toNat : Int) != ys[k].toNat) = false := by rw [HQ.out]; simp -implicitDefEqProofs -dsimp
     go_wp2_with fail
     go_quiet (fail)
     go_wp2_with fail
     go_roundg (xs.length - (k + 1))
     case measure => omega
     case rel => exact ⟨k + 1, by omega, by go_num, rfl, take_snoc_eq hlt hlt' hT.out HQ.out, below_drewN hbel _⟩
    ·have HQ := Lib.hid hq; clear hq
     have hne : ((xs[k].toNat : Int) != ys[k].toNat) = true := by have := HQ.out; simp only [bne_iff_ne, ne_eq, Int.natCast_inj]; exact fun h => this (UInt8.toNat_inj.1 h)
     go_wp2_with fail
     go_quiet (fail)
     go_wp2_with fail
     go_ret
     exact ⟨by rw [R.out, decide_eq_false (fun h => HQ.out (by subst h; rfl))]; rfl, below_drewN hbel _⟩
   ·have e : k = xs.length := by omega
    go_wp2_with fail
    go_ret
    exact ⟨by rw [R.out, decide_eq_true (take_all_eq e HE.out hT.out)]; rfl, hbel⟩
 ·have he' : ((xs.length : Int) != ys.length) = true := by simp -implicitDefEqProofs -dsimp; omega
  go_enter Tryz.func10, Tryz.ntmps10
  go_wp2_with fail
  go_ret
  exact ⟨by rw [R.out, decide_eq_false (fun h => he (by rw [h]))]; rfl, bRf w⟩
def RetM {α : Type} [Rep α] (base : Nat) (w : World) (F : List Nat) (l' : List α) (A : Option Addr) (c : Nat) (k : Int) (e : Ending) (w' : World) : Prop :=
 e = .returned (.int .i64 k) ∧ SlR w' F l' A c ∧ Fresh base w' F ∧ Kept F w w'
theorem lwc_one {w : World} {g o : Nat} {u : Value} (h : w.cell? ⟨g, o, none⟩ = some u) : CellsAt w g o [u] := fun j v hj => by
 cases j with
 | zero => simp at hj; subst hj; exact h
 | succ j => simp at hj
theorem markByteS_any (l : List UInt8) (k : Int) (F : List Nat) (A : Option Addr) (c base : Nat) (w : World) (hk : 0 ≤ k) (hk2 : k + l.length ≤ 1000000000000000) (h : SlR w F l A c) (hF : Fresh base w F) :
  Calls Tryz.prog 11 #[.slice A l.length c, .int .i64 k] w (RetM base w F (markB k l) A c (k + l.length)) := by
 have hlc := h.1; have hcm := h.2.1
 by_cases hl : l.length = 0
 ·have hln := List.eq_nil_of_length_eq_zero hl
  subst hln
  have E := Lib.hid (And.intro h hF); clear h hF
  go_enter Tryz.func11, Tryz.ntmps11
  go_wp2_with fail
  go_loopg [1, 5] 0 (fun gk kk i wr => kk = .int .i64 k ∧ i = .int .i64 0 ∧ wr = w)
  case atStart => exact ⟨rfl, rfl, rfl⟩
  case round =>
   obtain ⟨rfl, rfl, rfl⟩ := hrel
   go_wp2_with fail
   go_ret
   exact ⟨by simp, E.out.1, E.out.2, Kept.refl _ _⟩
 ·obtain ⟨g, off, F', rfl, rfl⟩ := h.plain_block (by omega)
  have M0 := Lib.hid (MarkS.start h hF)
  have hlm : l.length ≤ 9223372036854775807 := by omega
  clear h hF
  go_enter Tryz.func11, Tryz.ntmps11
  go_wp2_with fail
  go_loopg [1, 5] l.length (fun gk kk i wr => ∃ (n : Nat) (done : List UInt8), n ≤ l.length ∧ kk = .int .i64 (k + n) ∧ i = .int .i64 n ∧ gk = l.length - n ∧ done.length = n ∧ Hid (done ++ markB (k + n) (l.drop n) = markB k l) ∧ MarkS base g off done (l.drop n) F' wr ∧ Kept (g :: F') w wr)
  case atStart => exact ⟨0, [], by omega, by simp, rfl, by omega, rfl, by simp -implicitDefEqProofs -dsimp [Hid], M0.out, Kept.refl _ _⟩
  case round =>
   obtain ⟨n, done, hn, rfl, rfl, rfl, hdl, hT, hM, hK⟩ := hrel
   subst hdl
   by_cases hlt : done.length < l.length
   ·have hdr : l.drop done.length = l[done.length] :: l.drop (done.length + 1) := List.drop_eq_getElem_cons hlt
    rw [hdr] at hM
    have hpl := (hM.fresh.2 g (by simp -implicitDefEqProofs -dsimp)).2
    obtain ⟨Fa, cs, ⟨rfl, rfl⟩, hc, _, _, _, hstep⟩ := hM.head
    have k0 := hc.c0
    simp only [Rep.wd, Nat.mul_one] at k0 hstep
    have f0 := hpl.frozen (off + done.length)
    have HM := Lib.hid (And.intro hstep (And.intro hK hpl)); clear hstep hK hM hc
    have T' : Hid ((done ++ [byteOf (k + done.length)]) ++ markB (k + (done.length + 1 : Nat)) (l.drop (done.length + 1)) = markB k l) := by
     show _ = _
     rw [← hT.out, hdr, markB, List.append_assoc]
     simp -implicitDefEqProofs -dsimp; congr 1; omega
    have hbv := byteOf_val (k + done.length)
    have HBV := Lib.hid hbv; clear hbv
    go_wp2_with fail
    go_roundg (l.length - (done.length + 1))
    case measure => omega
    case rel =>
     refine ⟨done.length + 1, done ++ [byteOf (k + done.length)], by omega, by simp -implicitDefEqProofs -dsimp; omega, by go_num, rfl, by simp, T', ?_, HM.out.2.1.trans (Kept.set (by simp -implicitDefEqProofs -dsimp) _)⟩
     exact HM.out.1 _ (byteOf (k + done.length)) [.int .u8 ((k + done.length) % 256)] ⟨rfl, by rw [HBV.out]⟩ (lwc_one (cell_set_eq _ _ _ _ _ k0)) (fun j hj => cell_set_ne _ _ _ _ _ (by omega)) (fun b _ hb _ => Below.heap_setCell _ _ _ _ hb) (fun b hb => by simp at hb; subst hb; exact HM.out.2.2.set _ _)
   ·have e : done.length = l.length := by omega
    have hd : l.drop done.length = [] := by rw [e, List.drop_length]
    rw [hd] at hM
    have hfin := hT.out
    rw [hd, markB, List.append_nil] at hfin
    have HE := Lib.hid (And.intro (hM.finish (c := c) (by omega) hcm) (And.intro hM.fresh (And.intro hK hfin))); clear hM hK hfin hT hd
    go_wp2_with fail
    go_ret
    exact ⟨by rw [e]; rfl, HE.out.2.2.2 ▸ HE.out.1, HE.out.2.1, HE.out.2.2.1⟩
def EqVal (x : GVal) : Prop := ∀ (y : GVal) (A A' : Option Addr) (c c' : Nat) (w : World), SA w x.l A c → SA w y.l A' c' →
  Calls Tryz.prog 9 #[.agg #[.int .i64 x.kind, .int .i64 x.n, .int .i64 x.x, .string x.s, .slice A x.l.length c], .agg #[.int .i64 y.kind, .int .i64 y.n, .int .i64 y.x, .string y.s, .slice A' y.l.length c']] w (Ret w (.bool (decide (x = y))))
theorem eqValS_of (xs ys : List GVal) (A A' : Option Addr) (c c' : Nat) (w : World) (hx : SA w xs A c) (hy : SA w ys A' c') (IH : ∀ i (hi : i < xs.length), EqVal xs[i]) :
  Calls Tryz.prog 28 #[.slice A xs.length c, .slice A' ys.length c'] w (Ret w (.bool (decide (xs = ys)))) := by
 obtain ⟨r, hr⟩ : ∃ r, r = decide (xs = ys) := ⟨_, rfl⟩
 rw [← hr]
 have R := Lib.hid hr; clear hr
 have IH' := Lib.hid IH; clear IH
 have hl : xs.length ≤ 9223372036854775807 := by have := hx.len; unfold maxLen at this; omega
 have hl' : ys.length ≤ 9223372036854775807 := by have := hy.len; unfold maxLen at this; omega
 have E := Lib.hid (And.intro hx hy); clear hx hy
 by_cases he : xs.length = ys.length
 ·have he' : ((xs.length : Int) != ys.length) = false := by simp -implicitDefEqProofs -dsimp [he]
  have HE := Lib.hid he; clear he
  go_enter Tryz.func28, Tryz.ntmps28
  go_wp2_with fail
  go_loopg [5] xs.length (fun gk i wr => ∃ k : Nat, k ≤ xs.length ∧ i = .int .i64 k ∧ gk = xs.length - k ∧ Hid (xs.take k = ys.take k) ∧ Below w.heap.size w wr)
  case atStart => exact ⟨0, by omega, rfl, by omega, rfl, bRf w⟩
  case round =>
   obtain ⟨k, hk, rfl, rfl, hT, hbel⟩ := hrel
   by_cases hlt : k < xs.length
   ·obtain ⟨b, off, A1, c1, rfl, hb, hI, hs, k0, k1, k2, k3, k4⟩ := (E.out.1.below hbel).val_at hlt
    have hlt' : k < ys.length := HE.out ▸ hlt
    obtain ⟨b', off', A2, c2, rfl, hb', hI', hs', k0', k1', k2', k3', k4'⟩ := (E.out.2.below hbel).val_at hlt'
    have HI := Lib.hid (And.intro hI hI'); clear hI hI'
    rcases Decidable.em (xs[k] = ys[k]) with hq | hq
    ·have HQ := Lib.hid hq; clear hq
     go_wp2_with fail
     go_still_tail 8, (by kernel_rfl)
     change wpList _ _ _ _ _ wr.drew
     go_wp2_with fail
     refine (IH'.out k hlt ys[k] A1 A2 c1 c2 _ hs.drew hs'.drew).mono ?_
     rintro e w1 ⟨rfl, hb1⟩
     rw [decide_eq_true HQ.out]
     go_wp2_with fail
     go_roundg (xs.length - (k + 1))
     case measure => omega
     case rel => exact ⟨k + 1, by omega, by go_num, rfl, take_snoc_eq hlt hlt' hT.out HQ.out, bTr hbel.drew hb1⟩
    ·have HQ := Lib.hid hq; clear hq
     go_wp2_with fail
     go_still_tail 8, (by kernel_rfl)
     change wpList _ _ _ _ _ wr.drew
     go_wp2_with fail
     refine (IH'.out k hlt ys[k] A1 A2 c1 c2 _ hs.drew hs'.drew).mono ?_
     rintro e w1 ⟨rfl, hb1⟩
     rw [decide_eq_false HQ.out]
     go_wp2_with fail
     go_ret
     exact ⟨by rw [R.out, decide_eq_false (fun h => HQ.out (by subst h; rfl))]; rfl, bTr hbel.drew hb1⟩
   ·have e : k = xs.length := by omega
    go_wp2_with fail
    go_ret
    exact ⟨by rw [R.out, decide_eq_true (take_all_eq e HE.out hT.out)]; rfl, hbel⟩
 ·have he' : ((xs.length : Int) != ys.length) = true := by simp -implicitDefEqProofs -dsimp; omega
  go_enter Tryz.func28, Tryz.ntmps28
  go_wp2_with fail
  go_ret
  exact ⟨by rw [R.out, decide_eq_false (fun h => he (by rw [h]))]; rfl, bRf w⟩
theorem eqVal_ind (x : GVal) : EqVal x := by
 refine GVal.ind (p := EqVal) (fun x IH => ?_) x
 intro y A A' c c' w hx hy
 have b0 := Lib.hid (bAl (bAl (bRf w) (.cells #[.int .i64 x.kind, .int .i64 x.n, .int .i64 x.x, .string x.s, .slice A x.l.length c] 27)) (.cells #[.int .i64 y.kind, .int .i64 y.n, .int .i64 y.x, .string y.s, .slice A' y.l.length c'] 27))
 have E := Lib.hid (And.intro (hx.below b0.out) (hy.below b0.out)); clear hx hy
 obtain ⟨r, hr⟩ : ∃ r, r = decide (x = y) := ⟨_, rfl⟩
 rw [← hr]
 have R := Lib.hid hr; clear hr
 have IH' := Lib.hid IH; clear IH
 by_cases h1 : x.kind = y.kind
 ·have h1' : (x.kind != y.kind) = false := by simpa using h1
  have H1 := Lib.hid h1; clear h1
  by_cases h2 : x.n = y.n
  ·have h2' : (x.n != y.n) = false := by simpa using h2
   have H2 := Lib.hid h2; clear h2
   by_cases h3 : x.x = y.x
   ·have h3' : (x.x != y.x) = false := by simpa using h3
    have H3 := Lib.hid h3; clear h3
    by_cases h4 : x.s = y.s
    ·have h4' : (x.s.toList == y.s.toList) = true := by simp -implicitDefEqProofs -dsimp [h4]
     have H4 := Lib.hid h4; clear h4
     rcases Decidable.em (x.l = y.l) with h5 | h5
     all_goals
      have H5 := Lib.hid h5; clear h5
      go_enter Tryz.func9, Tryz.ntmps9
      go_wp2_with fail
      refine (eqValS_of x.l y.l A A' c c' _ E.out.1 E.out.2 IH'.out).mono ?_
      rintro e w1 ⟨rfl, hb1⟩
      have b1 := Lib.hid (bTr b0.out hb1); clear hb1
      first | rw [decide_eq_true H5.out] | rw [decide_eq_false H5.out]
      go_wp2_with fail
      go_ret
      exact ⟨by rw [R.out]; first | rw [decide_eq_true (gval_eq H1.out H2.out H3.out H4.out H5.out)]; rfl | rw [decide_eq_false (fun h => H5.out (by rw [h]))]; rfl, b1.out⟩
    ·have h4' : (x.s.toList == y.s.toList) = false := by
      have := str_eq (a := x.s) (b := y.s)
      rwa [decide_eq_false h4] at this
     have H4 := Lib.hid h4; clear h4
     go_enter Tryz.func9, Tryz.ntmps9
     go_wp2_with fail
     go_ret
     exact ⟨by rw [R.out, decide_eq_false (fun h => H4.out (by rw [h]))]; rfl, b0.out⟩
   ·have h3' : (x.x != y.x) = true := by simpa using h3
    have H3 := Lib.hid h3; clear h3
    go_enter Tryz.func9, Tryz.ntmps9
    go_wp2_with fail
    go_ret
    exact ⟨by rw [R.out, decide_eq_false (fun h => H3.out (by rw [h]))]; rfl, b0.out⟩
  ·have h2' : (x.n != y.n) = true := by simpa using h2
   have H2 := Lib.hid h2; clear h2
   go_enter Tryz.func9, Tryz.ntmps9
   go_wp2_with fail
   go_ret
   exact ⟨by rw [R.out, decide_eq_false (fun h => H2.out (by rw [h]))]; rfl, b0.out⟩
 ·have h1' : (x.kind != y.kind) = true := by simpa using h1
  have H1 := Lib.hid h1; clear h1
  go_enter Tryz.func9, Tryz.ntmps9
  go_wp2_with fail
  go_ret
  exact ⟨by rw [R.out, decide_eq_false (fun h => H1.out (by rw [h]))]; rfl, b0.out⟩
theorem eqVal_any (x y : GVal) (A A' : Option Addr) (c c' : Nat) (w : World) (hx : SA w x.l A c) (hy : SA w y.l A' c') :
  Calls Tryz.prog 9 #[.agg #[.int .i64 x.kind, .int .i64 x.n, .int .i64 x.x, .string x.s, .slice A x.l.length c], .agg #[.int .i64 y.kind, .int .i64 y.n, .int .i64 y.x, .string y.s, .slice A' y.l.length c']] w (Ret w (.bool (decide (x = y)))) :=
 eqVal_ind x y A A' c c' w hx hy
def digB (k : Int) : ByteArray := strOf [byteOf (48 + k % 10)]
def mtail : Nat → Int → ByteArray → ByteArray
 | 0, _, out => out
 | n + 1, k, out => if k ≤ 0 then out else mtail n (k / 10) (digB k ++ out)
def markTx (k : Int) : ByteArray := if k ≤ 0 then strOf [109, 48] else strOf [109] ++ mtail 16 k .empty
theorem markText_any (k : Int) (w : World) (hk : 0 ≤ k) (hk2 : k ≤ 2000000000000000) :
  Calls Tryz.prog 45 #[.int .i64 k] w (Ret w (.string (markTx k))) := by
 obtain ⟨r, hr⟩ : ∃ r, r = markTx k := ⟨_, rfl⟩
 rw [← hr]
 unfold markTx at hr
 by_cases h0 : k ≤ 0
 ·rw [if_pos h0] at hr
  have R := Lib.hid hr; clear hr
  go_enter Tryz.func45, Tryz.ntmps45
  go_wp2_with fail
  go_ret
  exact ⟨by rw [R.out]; rfl, bRf w⟩
 ·rw [if_neg h0] at hr
  have R := Lib.hid hr; clear hr
  go_enter Tryz.func45, Tryz.ntmps45
  go_wp2_with fail
  go_loopg [0, 3] 16 (fun gk kk oo wr => ∃ (kc : Int) (o : ByteArray), kk = .int .i64 kc ∧ oo = .string o ∧ 0 ≤ kc ∧ kc ≤ 2000000000000000 ∧ Hid (kc < 10 ^ gk ∧ o.size + gk ≤ 20) ∧ Hid (mtail gk kc o = mtail 16 k .empty) ∧ Below w.heap.size w wr)
  case atStart => exact ⟨k, .empty, rfl, rfl, hk, hk2, ⟨by omega, by simp⟩, rfl, bRf w⟩
  case round =>
   obtain ⟨kc, o, rfl, rfl, hk0, hk1, hG, hT, hbel⟩ := hrel
   by_cases hlt : kc ≤ 0
   ·have he : o = mtail 16 k .empty := by
     have := hT.out
     cases gk with
     | zero => exact this
     | succ m => rw [mtail, if_pos hlt] at this; exact this
    have HE := Lib.hid he; clear he
    have hz : o.size ≤ 20 := by have := hG.out.2; omega
    have hz2 : ¬ (9223372036854775807 < 1 + o.size) := by omega
    go_wp2_with fail
    go_ret
    exact ⟨by rw [R.out, HE.out]; rfl, hbel⟩
   ·obtain ⟨m, rfl⟩ : ∃ m, gk = m + 1 := by
     cases gk with
     | zero => have := hG.out.1; simp at this; omega
     | succ m => exact ⟨m, rfl⟩
    have hT1 := hT.out
    rw [mtail, if_neg hlt] at hT1
    have HT := Lib.hid hT1; clear hT1
    have hs : SA (wr.alloc (.cells #[.int .u8 (48 + kc % 10)] 5)) [byteOf (48 + kc % 10)] (some ⟨wr.heap.size, 0, none⟩) 1 := by
     have := (OwnF.lit1 (RF.byte (base := wr.heap.size) (w := wr) (byteOf (48 + kc % 10))) 5 (Nat.le_refl _)).sf.2.sa
     rw [byteOf_val, Int.emod_eq_of_lt (by omega) (by omega)] at this
     exact this
    have hcv := run_str_of_bytes (P := Tryz.prog) Tryz.underlying22 Tryz.underlying5 Tryz.underlying9 hs
    rw [List.length_singleton] at hcv
    have hds : strOf [byteOf (48 + kc % 10)] = digB kc := rfl
    rw [hds] at hcv
    clear hs hds
    have hsz : (digB kc).size = 1 := by simp -implicitDefEqProofs -dsimp [digB, strOf_size]
    have HG : Hid (kc / 10 < 10 ^ m ∧ (digB kc ++ o).size + m ≤ 20) := by
     refine ⟨?_, ?_⟩
     ·have := hG.out.1
      rw [Int.pow_succ] at this
      exact Int.ediv_lt_of_lt_mul (by omega) this
     ·rw [ByteArray.size_append, hsz]; have := hG.out.2; omega
    have hz : o.size ≤ 20 := by have := hG.out.2; omega
    have hz2 : ¬ (9223372036854775807 < (digB kc).size + o.size) := by omega
    have hb2 : Below w.heap.size w (wr.alloc (.cells #[.int .u8 (48 + kc % 10)] 5)) := bAl hbel _
    have HB := Lib.hid hb2; clear hb2
    go_wp2_with fail
    go_roundg m
    case measure => omega
    case rel => exact ⟨kc / 10, _, rfl, rfl, by omega, by omega, HG, HT, HB.out⟩
mutual
def cntV : GVal → Nat
 | ⟨_, _, _, _, l⟩ => 4 + cntVs l
def cntVs : List GVal → Nat
 | [] => 0
 | a :: l => cntV a + cntVs l
end
mutual
def markV : GVal → Int → GVal
 | ⟨_, _, _, _, l⟩, k => ⟨k, k + 1, k + 2, markTx (k + 3), markVs l (k + 4)⟩
def markVs : List GVal → Int → List GVal
 | [], _ => []
 | a :: l, k => markV a k :: markVs l (k + cntV a)
end
theorem cntV_eq (v : GVal) : cntV v = 4 + cntVs v.l := by cases v; rw [cntV]
theorem markV_eq (v : GVal) (k : Int) : markV v k = ⟨k, k + 1, k + 2, markTx (k + 3), markVs v.l (k + 4)⟩ := by cases v; rw [markV]
theorem markVs_len : ∀ (l : List GVal) (k : Int), (markVs l k).length = l.length
 | [], k => by rw [markVs]
 | a :: l, k => by rw [markVs]; simp -implicitDefEqProofs -dsimp [markVs_len l]
mutual
theorem cntV_le : ∀ (v : GVal), cntV v ≤ 4 + 4 * bulkVal v
 | ⟨_, _, _, s, l⟩ => by have := cntVs_le l; rw [cntV, bulkVal]; omega
theorem cntVs_le : ∀ (l : List GVal), cntVs l ≤ 4 * bulkVals l
 | [] => by simp -implicitDefEqProofs -dsimp [cntVs]
 | a :: l => by have := cntV_le a; have := cntVs_le l; rw [cntVs, bulkVals]; omega
end
theorem lwc_five {w : World} {g o : Nat} {a b c d e : Value} (h0 : w.cell? ⟨g, o, none⟩ = some a) (h1 : w.cell? ⟨g, o + 1, none⟩ = some b) (h2 : w.cell? ⟨g, o + 1 + 1, none⟩ = some c) (h3 : w.cell? ⟨g, o + 1 + 1 + 1, none⟩ = some d) (h4 : w.cell? ⟨g, o + 1 + 1 + 1 + 1, none⟩ = some e) : CellsAt w g o [a, b, c, d, e] := fun j x hj => by
 match j with
 | 0 => simp at hj; subst hj; exact h0
 | 1 => simp at hj; subst hj; exact h1
 | 2 => simp at hj; subst hj; exact h2
 | 3 => simp at hj; subst hj; exact h3
 | 4 => simp at hj; subst hj; exact h4
 | j + 5 => simp at hj
def MarkVal (v : GVal) : Prop := ∀ (k : Int) (F : List Nat) (A : Option Addr) (c base : Nat) (w : World), 0 ≤ k → k + cntVs v.l ≤ 1000000000000000 → SlR w F v.l A c → Fresh base w F → base ≤ w.heap.size →
  Calls Tryz.prog 29 #[.slice A v.l.length c, .int .i64 k] w (RetM base w F (markVs v.l k) A c (k + cntVs v.l))
theorem markValS_of (l : List GVal) (k : Int) (F : List Nat) (A : Option Addr) (c base : Nat) (w : World) (hk : 0 ≤ k) (hk2 : k + cntVs l ≤ 1000000000000000) (h : SlR w F l A c) (hF : Fresh base w F) (hbw : base ≤ w.heap.size) (hn4 : l.length ≤ 1000000000000000) (IH : ∀ i (hi : i < l.length), MarkVal l[i]) :
  Calls Tryz.prog 29 #[.slice A l.length c, .int .i64 k] w (RetM base w F (markVs l k) A c (k + cntVs l)) := by
 have hlc := h.1; have hcm := h.2.1
 have IH' := Lib.hid IH; clear IH
 by_cases hl : l.length = 0
 ·have hln := List.eq_nil_of_length_eq_zero hl
  subst hln
  have E := Lib.hid (And.intro h hF); clear h hF
  go_enter Tryz.func29, Tryz.ntmps29
  go_wp2_with fail
  go_loopg [1, 5] 0 (fun gk kk i wr => kk = .int .i64 k ∧ i = .int .i64 0 ∧ wr = w)
  case atStart => exact ⟨rfl, rfl, rfl⟩
  case round =>
   obtain ⟨rfl, rfl, rfl⟩ := hrel
   go_wp2_with fail
   go_ret
   exact ⟨by simp -implicitDefEqProofs -dsimp [cntVs], by rw [markVs]; exact E.out.1, E.out.2, Kept.refl _ _⟩
 ·obtain ⟨g, off, F', rfl, rfl⟩ := h.plain_block (by omega)
  have M0 := Lib.hid (MarkS.start h hF)
  have hlm : l.length ≤ 9223372036854775807 := by omega
  clear h hF
  obtain ⟨tot, htot⟩ : ∃ tot : Int, tot = k + cntVs l := ⟨_, rfl⟩
  rw [← htot] at hk2 ⊢
  have TT := Lib.hid htot; clear htot
  go_enter Tryz.func29, Tryz.ntmps29
  go_wp2_with fail
  go_loopg [1, 5] l.length (fun gk kk i wr => ∃ (n : Nat) (kc : Int) (done : List GVal), n ≤ l.length ∧ kk = .int .i64 kc ∧ 0 ≤ kc ∧ i = .int .i64 n ∧ gk = l.length - n ∧ done.length = n ∧ Hid (done ++ markVs (l.drop n) kc = markVs l k ∧ kc + cntVs (l.drop n) = tot) ∧ MarkS base g off done (l.drop n) F' wr ∧ Kept (g :: F') w wr)
  case atStart => exact ⟨0, k, [], by omega, rfl, hk, rfl, by omega, rfl, ⟨rfl, TT.out.symm⟩, M0.out, Kept.refl _ _⟩
  case round =>
   obtain ⟨n, kc, done, hn, rfl, hkc, rfl, rfl, hdl, hT, hM, hK⟩ := hrel
   subst hdl
   by_cases hlt : done.length < l.length
   ·have hdr : l.drop done.length = l[done.length] :: l.drop (done.length + 1) := List.drop_eq_getElem_cons hlt
    rw [hdr] at hM
    have hpl := (hM.fresh.2 g (by simp -implicitDefEqProofs -dsimp)).2
    obtain ⟨Fa, cs, hr0, hc, hsub, hg, hfa, hstep⟩ := hM.head
    obtain ⟨A1, c1, rfl, hI0, hs1⟩ := rpVal_iff.1 hr0
    have k0 := hc.c0
    have k1 := hc.c1
    have k2 := hc.c2
    have k3 := hc.c3
    have k4 := hc.c4
    simp only [Rep.wd] at k0 k1 k2 k3 k4 hstep
    have f0 := hpl.frozen (off + done.length * 5)
    have f1 := hpl.frozen (off + done.length * 5 + 1)
    have f2 := hpl.frozen (off + done.length * 5 + 1 + 1)
    have hT1 := hT.out
    rw [hdr, markVs, cntVs, cntV_eq] at hT1
    have hk3 : kc + 4 + cntVs l[done.length].l ≤ tot := by have := hT1.2; omega
    have HT1 := Lib.hid hT1; clear hT1
    have hgl := hpl.lt
    have HM := Lib.hid (And.intro hstep (And.intro hK hpl)); clear hstep hK hM hc hI0 hr0
    have HS := Lib.hid (And.intro hs1 (And.intro hfa (And.intro hg hsub))); clear hs1 hfa hg hsub
    go_wp2_with fail
    obtain ⟨o, ho⟩ : ∃ o, o = off + done.length * 5 := ⟨_, rfl⟩
    rw [← ho] at k0 k1 k2 k3 k4 f0 f1 f2
    obtain ⟨W3, hW3⟩ : ∃ W3, W3 = ((wr.setCell ⟨g, o, none⟩ (.int .i64 kc)).setCell ⟨g, o + 1, none⟩ (.int .i64 (kc + 1))).setCell ⟨g, o + 2, none⟩ (.int .i64 (kc + 1 + 1)) := ⟨_, rfl⟩
    rw [ho] at hW3
    rw [← hW3]
    rw [← ho] at hW3
    have hc3 : ∀ j, j ≠ o → j ≠ o + 1 → j ≠ o + 2 → W3.cell? ⟨g, j, none⟩ = wr.cell? ⟨g, j, none⟩ := fun j h0 h1 h2 => by
     rw [hW3, cell_set_ne _ _ _ _ _ h2, cell_set_ne _ _ _ _ _ h1, cell_set_ne _ _ _ _ _ h0]
    have hb3 : ∀ b, b ≠ g → W3.heap[b]? = wr.heap[b]? := fun b hb => by
     rw [hW3, Below.heap_setCell _ _ _ _ hb, Below.heap_setCell _ _ _ _ hb, Below.heap_setCell _ _ _ _ hb]
    have m0 : W3.cell? ⟨g, o, none⟩ = some (.int .i64 kc) := by
     rw [hW3, cell_set_ne _ _ _ _ _ (by omega), cell_set_ne _ _ _ _ _ (by omega)]; exact cell_set_eq _ _ _ _ _ k0
    have m1 : W3.cell? ⟨g, o + 1, none⟩ = some (.int .i64 (kc + 1)) := by
     rw [hW3, cell_set_ne _ _ _ _ _ (by omega)]; exact cell_set_eq _ _ _ _ _ ((cell_set_ne _ _ _ _ _ (by omega)).trans k1)
    have m2 : W3.cell? ⟨g, o + 2, none⟩ = some (.int .i64 (kc + 1 + 1)) := by
     rw [hW3]; exact cell_set_eq _ _ _ _ _ (((cell_set_ne _ _ _ _ _ (by omega)).trans (cell_set_ne _ _ _ _ _ (by omega))).trans k2)
    have m3 : W3.cell? ⟨g, o + 3, none⟩ = some (.string l[done.length].s) := (hc3 _ (by omega) (by omega) (by omega)).trans k3
    have m4 : W3.cell? ⟨g, o + 4, none⟩ = some (.slice A1 l[done.length].l.length c1) := (hc3 _ (by omega) (by omega) (by omega)).trans k4
    have hp3 : Plain W3 g := by rw [hW3]; exact ((HM.out.2.2.set _ _).set _ _).set _ _
    have hs3 : W3.heap.size = wr.heap.size := by rw [hW3]; simp -implicitDefEqProofs -dsimp [World.setCell]
    clear k0 k1 k2 k3 k4 f0 f1 f2
    have C3 := Lib.hid (And.intro hc3 (And.intro hb3 (And.intro m0 (And.intro m1 (And.intro m2 (And.intro m3 (And.intro m4 hp3)))))))
    have K3 := Lib.hid (show Kept (g :: F') wr W3 by rw [hW3]; exact (Kept.set (by simp -implicitDefEqProofs -dsimp) _).trans ((Kept.set (by simp -implicitDefEqProofs -dsimp) _).trans (Kept.set (by simp -implicitDefEqProofs -dsimp) _)))
    clear hc3 hb3 m0 m1 m2 m3 m4 hp3 hW3
    refine (markText_any _ W3 (by omega) (by omega)).mono ?_
    rintro e w1 ⟨rfl, hb1⟩
    have c3 : w1.cell? ⟨g, o + 3, none⟩ = some (.string l[done.length].s) := (hb1.cell (p := ⟨g, o + 3, none⟩) (by simpa [hs3] using hgl)).trans C3.out.2.2.2.2.2.1
    have c4 : w1.cell? ⟨g, o + 4, none⟩ = some (.slice A1 l[done.length].l.length c1) := (hb1.cell (p := ⟨g, o + 4, none⟩) (by simpa [hs3] using hgl)).trans C3.out.2.2.2.2.2.2.1
    have hp1 : Plain w1 g := C3.out.2.2.2.2.2.2.2.keep (hb1.block g (by omega))
    have f3 := hp1.frozen (o + 3)
    have HB1 := Lib.hid (And.intro hb1 hp1); clear hb1 hp1
    rw [ho] at c3 c4 f3
    go_wp2_with fail
    rw [← ho] at c3 c4 f3
    have hkeep : ∀ b, b ∈ Fa → (w1.setCell ⟨g, o + 3, none⟩ (.string (markTx (kc + 1 + 1 + 1)))).heap[b]? = wr.heap[b]? := fun b hb => by
     have hne : b ≠ g := fun e => HS.out.2.2.1 (e ▸ hb)
     rw [Below.heap_setCell _ _ _ _ hne, HB1.out.1.block b (by rw [hs3]; exact (HS.out.2.1.2 b hb).2.lt)]
     exact C3.out.2.1 b hne
    have hsz1 : W3.heap.size ≤ w1.heap.size := HB1.out.1.size
    rw [← ho]
    refine (IH'.out done.length hlt (kc + 1 + 1 + 1 + 1) Fa A1 c1 base (w1.setCell ⟨g, o + 3, none⟩ (.string (markTx (kc + 1 + 1 + 1)))) (by omega) (by omega) (HS.out.1.keep hkeep) (HS.out.2.1.keep hkeep) (by simp -implicitDefEqProofs -dsimp [World.setCell]; have := (HM.out.2.1).2.2.2.1; omega)).mono ?_
    rintro e w2 ⟨rfl, hs2, hf2, hk2'⟩
    have HR := Lib.hid (And.intro hs2 (And.intro hf2 hk2')); clear hs2 hf2 hk2' hkeep
    go_wp2_with fail
    go_roundg (l.length - (done.length + 1))
    case measure => omega
    case rel =>
     have hg2 : w2.heap[g]? = (w1.setCell ⟨g, o + 3, none⟩ (.string (markTx (kc + 1 + 1 + 1)))).heap[g]? := HR.out.2.2.2.2.2.2 g (by simp -implicitDefEqProofs -dsimp [World.setCell]; omega) HS.out.2.2.1
     have hcg : ∀ j, w2.cell? ⟨g, j, none⟩ = (w1.setCell ⟨g, o + 3, none⟩ (.string (markTx (kc + 1 + 1 + 1)))).cell? ⟨g, j, none⟩ := fun j => World.cell?_of_block (a := ⟨g, j, none⟩) hg2
     have hc1 : ∀ j, j ≠ o + 3 → w2.cell? ⟨g, j, none⟩ = W3.cell? ⟨g, j, none⟩ := fun j hj => by
      rw [hcg, cell_set_ne _ _ _ _ _ hj]
      exact HB1.out.1.cell (p := ⟨g, j, none⟩) (by simpa [hs3] using hgl)
     have hms := markVs_len l[done.length].l (kc + 4)
     have hr := HR.out
     rw [show kc + 1 + 1 + 1 + 1 = kc + 4 by omega] at hr
     have hmt : markTx (kc + 1 + 1 + 1) = markTx (kc + 3) := by rw [show kc + 1 + 1 + 1 = kc + 3 by omega]
     refine ⟨done.length + 1, kc + 4 + cntVs l[done.length].l, done ++ [markV l[done.length] kc], by omega, by (try simp -implicitDefEqProofs -dsimp); omega, by omega, by go_num, rfl, by simp, ⟨?_, ?_⟩, ?_, ?_⟩
     ·have e : (kc + 4 + (cntVs l[done.length].l : Int)) = kc + ((4 + cntVs l[done.length].l : Nat) : Int) := by omega
      rw [e, ← HT1.out.1, List.append_assoc]; rfl
     ·have := HT1.out.2; omega
     ·refine HM.out.1 _ (markV l[done.length] kc) [.int .i64 kc, .int .i64 (kc + 1), .int .i64 (kc + 2), .string (markTx (kc + 3)), .slice A1 l[done.length].l.length c1] ?_ (lwc_five ?_ ?_ ?_ ?_ ?_) ?_ ?_ ?_
      ·rw [markV_eq]
       refine rpVal_iff.2 ⟨A1, c1, by simp -implicitDefEqProofs -dsimp [hms], trivial, hr.1⟩
      ·rw [← ho, hc1 _ (by omega)]; exact C3.out.2.2.1
      ·rw [← ho, hc1 _ (by omega)]; exact C3.out.2.2.2.1
      ·rw [← ho, hc1 _ (by omega), show kc + 2 = kc + 1 + 1 by omega]; exact C3.out.2.2.2.2.1
      ·rw [← ho, hcg, ← hmt]; exact cell_set_eq _ _ _ _ _ c3
      ·rw [← ho, hc1 _ (by omega)]; exact C3.out.2.2.2.2.2.2.1
      ·intro j hj; rw [← ho] at hj; rw [hc1 _ (by omega)]; exact C3.out.1 j (by omega) (by omega) (by omega)
      ·intro b hb hbg hba
       rw [hr.2.2.2.2.2.2 b (by simp -implicitDefEqProofs -dsimp [World.setCell]; omega) hba, Below.heap_setCell _ _ _ _ hbg, HB1.out.1.block b (by omega)]
       exact C3.out.2.1 b hbg
      ·intro b hb
       rcases List.mem_cons.1 hb with rfl | hb
       ·exact (HB1.out.2.set _ _).keep hg2
       ·exact (hr.2.1.2 b hb).2
     ·exact HM.out.2.1.trans (K3.out.trans ((Kept.of_below HB1.out.1).trans ((Kept.set (by simp -implicitDefEqProofs -dsimp) _).trans (HR.out.2.2.mono fun b hb => List.mem_cons_of_mem _ (HS.out.2.2.2 b hb)))))
   ·have e : done.length = l.length := by omega
    have hd : l.drop done.length = [] := by rw [e, List.drop_length]
    rw [hd] at hM
    have hfin := hT.out
    rw [hd, markVs, List.append_nil] at hfin
    have htt : kc = tot := by have := hfin.2; simpa [cntVs] using this
    subst htt
    have HE := Lib.hid (And.intro (hM.finish (c := c) (by omega) hcm) (And.intro hM.fresh (And.intro hK hfin.1))); clear hM hK hfin hT hd
    go_wp2_with fail
    go_ret
    exact ⟨rfl, HE.out.2.2.2 ▸ HE.out.1, HE.out.2.1, HE.out.2.2.1⟩
theorem cntVs_len : ∀ (l : List GVal), l.length ≤ cntVs l
 | [] => by simp -implicitDefEqProofs -dsimp
 | a :: l => by have := cntVs_len l; have := cntV_eq a; rw [cntVs, List.length_cons]; omega
theorem markVal_ind (v : GVal) : MarkVal v := by
 refine GVal.ind (fun v IH => ?_) v
 intro k F A c base w hk hk2 h hF hb
 exact markValS_of v.l k F A c base w hk hk2 h hF hb (by have := cntVs_len v.l; omega) IH
theorem markVal_any (v : GVal) (k : Int) (F : List Nat) (A : Option Addr) (c base : Nat) (w : World) (hk : 0 ≤ k) (hk2 : k + cntVs v.l ≤ 1000000000000000) (h : SlR w F v.l A c) (hF : Fresh base w F) (hb : base ≤ w.heap.size) :
  Calls Tryz.prog 12 #[.agg #[.int .i64 v.kind, .int .i64 v.n, .int .i64 v.x, .string v.s, .slice A v.l.length c], .int .i64 k] w (RetM base w F (markVs v.l k) A c (k + cntVs v.l)) := by
 obtain ⟨tot, htot⟩ : ∃ tot : Int, tot = k + cntVs v.l := ⟨_, rfl⟩
 have b0 := bAl (bRf w) (.cells #[.int .i64 v.kind, .int .i64 v.n, .int .i64 v.x, .string v.s, .slice A v.l.length c] 27)
 have hC := markVal_ind v k F A c base (w.alloc (.cells #[.int .i64 v.kind, .int .i64 v.n, .int .i64 v.x, .string v.s, .slice A v.l.length c] 27)) hk hk2 (h.keep fun b hm => b0.block b (hF.2 b hm).2.lt) (hF.below b0) (by simp -implicitDefEqProofs -dsimp; omega)
 rw [← htot] at hC ⊢
 have C := Lib.hid hC; clear hC
 have B0 := Lib.hid b0; clear b0
 clear h hF htot hk2
 go_enter Tryz.func12, Tryz.ntmps12
 go_wp2_with fail
 refine C.out.mono ?_
 rintro e w1 ⟨rfl, hs1, hf1, hk1⟩
 have HE := Lib.hid (And.intro hs1 (And.intro hf1 hk1)); clear hs1 hf1 hk1
 go_wp2_with fail
 go_ret
 exact ⟨rfl, HE.out.1, HE.out.2.1, (Kept.of_below B0.out).trans HE.out.2.2⟩
end Go.Proofs.YtlfblkekbcfjpaaGreatDoor
