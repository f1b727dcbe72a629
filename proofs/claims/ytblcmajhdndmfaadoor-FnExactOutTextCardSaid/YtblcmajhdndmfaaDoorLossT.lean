/- Losses as text: plain. -/
import Derived.Test.YtblcmajhdndmfaaDoorPathS
import Derived.Test.YtblcmajhdndmfaaDoorNames
import Derived.Lib.Join
namespace Go.Proofs.YtblcmajhdndmfaaDoor
open Go.RowKit
set_option linter.unusedVariables false
set_option maxRecDepth 100000

def wordT (v : GVal) (x : GLoss) : ByteArray := lossS x.kind ++ ⟨#[32]⟩ ++ (⟨#[36]⟩ ++ pathT v x.p)
def lossTo (v : GVal) (l : List GLoss) (k : Nat) : ByteArray := strOf (Lib.join ((l.take k).map fun x => (wordT v x).data.toList) [59, 32])
def lossT (v : GVal) (l : List GLoss) : ByteArray := if l.length = 0 then ⟨#[45]⟩ else lossTo v l l.length

theorem join_snoc (xs : List (List UInt8)) (y sep : List UInt8) : Lib.join (xs ++ [y]) sep = if xs.length = 0 then y else Lib.join xs sep ++ sep ++ y := by
  cases xs with
  | nil => simp [Lib.join_one]
  | cons x r =>
    rw [List.cons_append, Lib.join_cons, Lib.join_cons]
    simp [Lib.joinTail]
theorem lossTo_zero (v : GVal) (l : List GLoss) : lossTo v l 0 = ⟨#[]⟩ := rfl
theorem lossTo_succ (v : GVal) (l : List GLoss) {k : Nat} (h : k < l.length) : lossTo v l (k + 1) = if k = 0 then wordT v l[k] else lossTo v l k ++ ⟨#[59, 32]⟩ ++ wordT v l[k] := by
  unfold lossTo
  rw [List.take_succ_eq_append_getElem h, List.map_append, List.map_cons, List.map_nil, join_snoc]
  simp only [List.length_map, List.length_take]
  have e : min k l.length = k := by omega
  rw [e]
  split
  · rw [strOf_data]
  · rw [← strOf_append, ← strOf_append, strOf_data]; rfl
theorem bulkLossS_take {l : List GLoss} {k : Nat} (h : k < l.length) : bulkLossS (l.take (k + 1)) = bulkLossS (l.take k) + 1 + l[k].p.length := by
  unfold bulkLossS
  rw [List.take_succ_eq_append_getElem h]
  simp only [List.length_append, List.map_append, List.sum_append, List.length_singleton, List.map_cons, List.map_nil, List.sum_cons, List.sum_nil, bulkLoss]; omega
theorem bulkLossS_take_le (l : List GLoss) (k : Nat) : bulkLossS (l.take k) ≤ bulkLossS l := by
  conv => rhs; rw [← List.take_append_drop k l]
  unfold bulkLossS
  simp only [List.length_append, List.map_append, List.sum_append]
  omega
def StepsI (l : List GLoss) : Prop := ∀ (i : Nat) (h : i < l.length), ∀ s ∈ l[i].p, I64 s.at_
theorem SA.stepI {w : World} {l : List GStep} {A : Option Addr} {c : Nat} (h : SA w l A c) : ∀ s ∈ l, I64 s.at_ := fun s hs => by
  obtain ⟨i, hi, rfl⟩ := List.getElem_of_mem hs
  obtain ⟨b, off, _, _, hI, _⟩ := h.step_at hi
  exact hI
theorem SA.stepsI {w : World} {l : List GLoss} {A : Option Addr} {c : Nat} (h : SA w l A c) : StepsI l := fun i hi => by
  obtain ⟨b, off, A', c', _, _, _, hs, _⟩ := h.loss_at hi
  exact hs.stepI
theorem wordT_size {v : GVal} {x : GLoss} (hn : bulkVal v ≤ 1048576) (hI : ∀ s ∈ x.p, I64 s.at_) : (wordT v x).size ≤ 7 + x.p.length * 1048599 := by
  have h1 := pathT_size x.p v hI
  have h2 : x.p.length * (bulkVal v + 23) ≤ x.p.length * 1048599 := Nat.mul_le_mul_left _ (by omega)
  have h3 := lossS_size x.kind
  unfold wordT
  simp only [ByteArray.size_append]
  have e1 : (ByteArray.mk #[32]).size = 1 := rfl
  have e2 : (ByteArray.mk #[36]).size = 1 := rfl
  omega
theorem lossTo_size {v : GVal} {l : List GLoss} (hn : bulkVal v ≤ 1048576) (hI : StepsI l) : ∀ k, k ≤ l.length → (lossTo v l k).size ≤ bulkLossS (l.take k) * 1048600
  | 0, _ => by rw [lossTo_zero]; exact Nat.zero_le _
  | k + 1, h => by
    have h1 := lossTo_size hn hI k (by omega)
    have h2 := wordT_size hn (hI k (by omega))
    rw [lossTo_succ v l (by omega), bulkLossS_take (by omega), Nat.add_mul, Nat.add_mul]
    have e1 : (ByteArray.mk #[59, 32]).size = 2 := rfl
    have e3 : l[k].p.length * 1048599 ≤ l[k].p.length * 1048600 := Nat.mul_le_mul_left _ (by omega)
    split
    · omega
    · simp only [ByteArray.size_append]; omega
theorem lossTo_max {v : GVal} {l : List GLoss} (hn : bulkVal v ≤ 1048576) (hl : bulkLossS l ≤ 1048576) (hI : StepsI l) {k : Nat} (hk : k ≤ l.length) : (lossTo v l k).size ≤ 1099536793600 := by
  have h1 := lossTo_size hn hI k hk
  have h2 := bulkLossS_take_le l k
  have h3 : bulkLossS (l.take k) * 1048600 ≤ 1048576 * 1048600 := Nat.mul_le_mul_right _ (by omega)
  omega
theorem bulkLossS_p {l : List GLoss} {i : Nat} (h : i < l.length) : l[i].p.length + 1 ≤ bulkLossS l := by
  have h1 := bulkLossS_take h
  have h2 := bulkLossS_take_le l (i + 1)
  omega
theorem bulkLossS_len (l : List GLoss) : l.length ≤ bulkLossS l := by unfold bulkLossS; omega
theorem pathT_max {v : GVal} {p : List GStep} (hn : bulkVal v ≤ 1048576) (hp : p.length ≤ 1048576) (hI : ∀ s ∈ p, I64 s.at_) : (⟨#[36]⟩ ++ pathT v p : ByteArray).size ≤ 1099535745025 := by
  have h1 := pathT_size p v hI
  have h2 : p.length * (bulkVal v + 23) ≤ 1048576 * 1048599 := Nat.mul_le_mul hp (by omega)
  rw [ByteArray.size_append]
  have e2 : (ByteArray.mk #[36]).size = 1 := rfl
  omega

set_option maxHeartbeats 2000000 in
theorem specLossText_any (v : GVal) (l : List GLoss) (A Al : Option Addr) (c cl : Nat) (w : World) (hn : bulkVal v ≤ 1048576) (hv : VInt v) (hln : bulkLossS l ≤ 1048576) (hx : SA w v.l A c) (hl : SA w l Al cl) :
    Calls Tryd.prog 32 #[.agg #[.int .i64 v.kind, .int .i64 v.n, .int .i64 v.x, .string v.s, .slice A v.l.length c], .slice Al l.length cl] w (Ret w (.string (lossT v l))) := by
  have h0 : l.length ≤ 1048576 := Nat.le_trans (bulkLossS_len l) hln
  obtain ⟨r, hr⟩ : ∃ r, r = lossT v l := ⟨_, rfl⟩
  rw [← hr]
  have HIs := Lib.hid hl.stepsI
  have b0 := Lib.hid (bAl (bRf w) (.cells #[.int .i64 v.kind, .int .i64 v.n, .int .i64 v.x, .string v.s, .slice A v.l.length c] 41))
  have P0 := Lib.hid (Blk.new w 41 #[.int .i64 v.kind, .int .i64 v.n, .int .i64 v.x, .string v.s, .slice A v.l.length c])
  have E := Lib.hid (And.intro (hx.below b0.out) (hl.below b0.out)); clear hx hl
  have R := Lib.hid hr; clear hr
  have HI := Lib.hid hv; clear hv
  go_enter Tryd.func32, Tryd.ntmps32
  go_wp2_with fail
  go_loopg [5, 6] l.length (fun gk ss i wr => ∃ (k : Nat) (s : ByteArray), k ≤ l.length ∧ ss = .string s ∧ i = .int .i64 k ∧ gk = l.length - k ∧ Hid (s = lossTo v l k) ∧ Below (w.heap.size + 1) (w.alloc (.cells #[.int .i64 v.kind, .int .i64 v.n, .int .i64 v.x, .string v.s, .slice A v.l.length c] 41)) wr)
  case atStart => exact ⟨0, _, by omega, rfl, rfl, by omega, rfl, by have := bRf (w.alloc (.cells #[.int .i64 v.kind, .int .i64 v.n, .int .i64 v.x, .string v.s, .slice A v.l.length c] 41)); simpa using this⟩
  case round =>
    obtain ⟨k, s, hk, rfl, rfl, rfl, hS, hbel0⟩ := hrel
    have hbel : Below (w.alloc (.cells #[.int .i64 v.kind, .int .i64 v.n, .int .i64 v.x, .string v.s, .slice A v.l.length c] 41)).heap.size (w.alloc (.cells #[.int .i64 v.kind, .int .i64 v.n, .int .i64 v.x, .string v.s, .slice A v.l.length c] 41)) wr := by simpa using hbel0
    have HBL := Lib.hid hbel; clear hbel0 hbel
    by_cases hlt : k < l.length
    · obtain ⟨b, off, A1, c1, rfl, hb, hI, hs1, k0, k1⟩ := (E.out.2.below HBL.out).loss_at hlt
      obtain ⟨p0, p1, p2, p3, p4⟩ := (P0.out.below HBL.out).c5
      have hzw : w.heap.size < wr.heap.size := (P0.out.below HBL.out).lt
      have hss : s.size ≤ 1099536793600 := by rw [hS.out]; exact lossTo_max hn hln HIs.out hk
      have hi1 : (k : Int) < l.length := by omega
      have hi2 : (0 : Int) ≤ k := by omega
      have hpl : l[k].p.length ≤ 1048576 := by have := bulkLossS_p hlt; omega
      obtain ⟨m, hm⟩ : ∃ m, m = lossS l[k].kind := ⟨_, rfl⟩
      obtain ⟨q, hq⟩ : ∃ q, q = (⟨#[36]⟩ ++ pathT v l[k].p : ByteArray) := ⟨_, rfl⟩
      have sm : m.size ≤ 5 := by rw [hm]; exact lossS_size _
      have sq : q.size ≤ 1099535745025 := by rw [hq]; exact pathT_max hn hpl (HIs.out k hlt)
      have HSA := Lib.hid (And.intro (E.out.1.below HBL.out) hs1)
      have HM := Lib.hid (And.intro hm hq); clear hm hq hs1 hI
      by_cases hk0 : k = 0
      · have hk1 : ¬ ((0 : Int) < k) := by omega
        have hk2 : ¬ (0 < k) := by omega
        have hk3 : (k : Int) ≤ 0 := by omega
        have hp : s ++ m ++ ⟨#[32]⟩ ++ q = lossTo v l (k + 1) := by
          have e0 : lossTo v l k = ⟨#[]⟩ := by rw [hk0]; rfl
          rw [lossTo_succ v l hlt, if_pos hk0, hS.out, e0, HM.out.1, HM.out.2]; unfold wordT
          simp only [ByteArray.append_assoc]
          apply ByteArray.ext; simp
        have y1 : ¬ (9223372036854775807 < s.size + m.size) := by omega
        have y2 : ¬ (9223372036854775807 < s.size + m.size + 1) := by omega
        have y3 : ¬ (9223372036854775807 < s.size + m.size + 1 + q.size) := by omega
        have HP := Lib.hid hp; clear hp hk0
        go_wp2_with fail
        go_region_held3 (fun u => u.cell? ⟨b, off + k * 2, none⟩ = some (.int .i64 l[k].kind) ∧ u.cell? ⟨b, off + k * 2 + 1, none⟩ = some (.slice A1 l[k].p.length c1) ∧ u.cell? ⟨w.heap.size, 0, none⟩ = some (.int .i64 v.kind) ∧ u.cell? ⟨w.heap.size, 1, none⟩ = some (.int .i64 v.n) ∧ u.cell? ⟨w.heap.size, 2, none⟩ = some (.int .i64 v.x) ∧ u.cell? ⟨w.heap.size, 3, none⟩ = some (.string v.s) ∧ u.cell? ⟨w.heap.size, 4, none⟩ = some (.slice A v.l.length c)) (go_keep)
          (first
            | (go_at_call 45; (refine (specPathText_any v l[k].p A A1 c c1 _ hn HI.out hpl (HSA.out.1.below (by first | exact (bRf wr).drew | exact HB9.out)) (HSA.out.2.below (by first | exact (bRf wr).drew | exact HB9.out))).mono ?_; rintro e w8 ⟨rfl, hb8⟩; rw [← HM.out.2]; have HB8 := Lib.hid (show Below wr.heap.size wr w8 from by first | exact bTr (bRf wr).drew hb8 | exact bTr HB9.out hb8); have j0 := (HB8.out.cell (p := ⟨b, _, none⟩) hb).trans k0; have j1 := (HB8.out.cell (p := ⟨b, _, none⟩) hb).trans k1; have u0 := (HB8.out.cell (p := ⟨w.heap.size, _, none⟩) hzw).trans p0; have u1 := (HB8.out.cell (p := ⟨w.heap.size, _, none⟩) hzw).trans p1; have u2 := (HB8.out.cell (p := ⟨w.heap.size, _, none⟩) hzw).trans p2; have u3 := (HB8.out.cell (p := ⟨w.heap.size, _, none⟩) hzw).trans p3; have u4 := (HB8.out.cell (p := ⟨w.heap.size, _, none⟩) hzw).trans p4; clear hb8))
            | (go_at_call 44; (refine (specLossName_any _ _).mono ?_; rintro e w9 ⟨rfl, hb9⟩; rw [← HM.out.1]; have HB9 := Lib.hid (show Below wr.heap.size wr w9 from by first | exact bTr (bRf wr).drew hb9 | exact bTr HB8.out hb9); have j0 := (HB9.out.cell (p := ⟨b, _, none⟩) hb).trans k0; have j1 := (HB9.out.cell (p := ⟨b, _, none⟩) hb).trans k1; have u0 := (HB9.out.cell (p := ⟨w.heap.size, _, none⟩) hzw).trans p0; have u1 := (HB9.out.cell (p := ⟨w.heap.size, _, none⟩) hzw).trans p1; have u2 := (HB9.out.cell (p := ⟨w.heap.size, _, none⟩) hzw).trans p2; have u3 := (HB9.out.cell (p := ⟨w.heap.size, _, none⟩) hzw).trans p3; have u4 := (HB9.out.cell (p := ⟨w.heap.size, _, none⟩) hzw).trans p4; clear hb9)))
        all_goals
          go_wp2_with fail
          go_roundg (l.length - (k + 1))
          case measure => omega
          case rel => exact ⟨k + 1, _, by omega, rfl, by go_num, rfl, HP.out, by first | (have h := bTr HBL.out HB9.out; simpa using h) | (have h := bTr HBL.out HB8.out; simpa using h)⟩
      · have hp : s ++ ⟨#[59, 32]⟩ ++ m ++ ⟨#[32]⟩ ++ q = lossTo v l (k + 1) := by
          rw [lossTo_succ v l hlt, if_neg hk0, hS.out, HM.out.1, HM.out.2]; unfold wordT
          simp only [ByteArray.append_assoc]
        have y0 : ¬ (9223372036854775807 < s.size + 2) := by omega
        have y1 : ¬ (9223372036854775807 < s.size + 2 + m.size) := by omega
        have y2 : ¬ (9223372036854775807 < s.size + 2 + m.size + 1) := by omega
        have y3 : ¬ (9223372036854775807 < s.size + 2 + m.size + 1 + q.size) := by omega
        have HP := Lib.hid hp; clear hp
        have hk1 : (0 : Int) < k := by omega
        go_wp2_with fail
        go_region_held3 (fun u => u.cell? ⟨b, off + k * 2, none⟩ = some (.int .i64 l[k].kind) ∧ u.cell? ⟨b, off + k * 2 + 1, none⟩ = some (.slice A1 l[k].p.length c1) ∧ u.cell? ⟨w.heap.size, 0, none⟩ = some (.int .i64 v.kind) ∧ u.cell? ⟨w.heap.size, 1, none⟩ = some (.int .i64 v.n) ∧ u.cell? ⟨w.heap.size, 2, none⟩ = some (.int .i64 v.x) ∧ u.cell? ⟨w.heap.size, 3, none⟩ = some (.string v.s) ∧ u.cell? ⟨w.heap.size, 4, none⟩ = some (.slice A v.l.length c)) (go_keep)
          (first
            | (go_at_call 45; (refine (specPathText_any v l[k].p A A1 c c1 _ hn HI.out hpl (HSA.out.1.below (by first | exact (bRf wr).drew | exact HB9.out)) (HSA.out.2.below (by first | exact (bRf wr).drew | exact HB9.out))).mono ?_; rintro e w8 ⟨rfl, hb8⟩; rw [← HM.out.2]; have HB8 := Lib.hid (show Below wr.heap.size wr w8 from by first | exact bTr (bRf wr).drew hb8 | exact bTr HB9.out hb8); have j0 := (HB8.out.cell (p := ⟨b, _, none⟩) hb).trans k0; have j1 := (HB8.out.cell (p := ⟨b, _, none⟩) hb).trans k1; have u0 := (HB8.out.cell (p := ⟨w.heap.size, _, none⟩) hzw).trans p0; have u1 := (HB8.out.cell (p := ⟨w.heap.size, _, none⟩) hzw).trans p1; have u2 := (HB8.out.cell (p := ⟨w.heap.size, _, none⟩) hzw).trans p2; have u3 := (HB8.out.cell (p := ⟨w.heap.size, _, none⟩) hzw).trans p3; have u4 := (HB8.out.cell (p := ⟨w.heap.size, _, none⟩) hzw).trans p4; clear hb8))
            | (go_at_call 44; (refine (specLossName_any _ _).mono ?_; rintro e w9 ⟨rfl, hb9⟩; rw [← HM.out.1]; have HB9 := Lib.hid (show Below wr.heap.size wr w9 from by first | exact bTr (bRf wr).drew hb9 | exact bTr HB8.out hb9); have j0 := (HB9.out.cell (p := ⟨b, _, none⟩) hb).trans k0; have j1 := (HB9.out.cell (p := ⟨b, _, none⟩) hb).trans k1; have u0 := (HB9.out.cell (p := ⟨w.heap.size, _, none⟩) hzw).trans p0; have u1 := (HB9.out.cell (p := ⟨w.heap.size, _, none⟩) hzw).trans p1; have u2 := (HB9.out.cell (p := ⟨w.heap.size, _, none⟩) hzw).trans p2; have u3 := (HB9.out.cell (p := ⟨w.heap.size, _, none⟩) hzw).trans p3; have u4 := (HB9.out.cell (p := ⟨w.heap.size, _, none⟩) hzw).trans p4; clear hb9)))
        all_goals
          go_wp2_with fail
          go_roundg (l.length - (k + 1))
          case measure => omega
          case rel => exact ⟨k + 1, _, by omega, rfl, by go_num, rfl, HP.out, by first | (have h := bTr HBL.out HB9.out; simpa using h) | (have h := bTr HBL.out HB8.out; simpa using h)⟩
    · have e : k = l.length := by omega
      subst e
      have hbw := bTr b0.out HBL.out
      by_cases h1 : l.length = 0
      · have hz : ((l.length : Int) == 0) = true := by simp [h1]
        have hR : r = ⟨#[45]⟩ := by rw [R.out]; unfold lossT; rw [if_pos h1]
        have HR := Lib.hid hR; clear hR h1
        go_wp2_with fail
        go_ret
        exact ⟨by rw [HR.out]; rfl, hbw⟩
      · have hz : ((l.length : Int) == 0) = false := by rw [beq_eq_false_iff_ne]; omega
        have hR : r = s := by rw [R.out, hS.out]; unfold lossT; rw [if_neg h1]
        have HR := Lib.hid hR; clear hR
        go_wp2_with fail
        go_ret
        exact ⟨by rw [HR.out]; rfl, hbw⟩
end Go.Proofs.YtblcmajhdndmfaaDoor
