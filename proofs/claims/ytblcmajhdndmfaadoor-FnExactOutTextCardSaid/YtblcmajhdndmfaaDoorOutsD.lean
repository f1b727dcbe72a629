/- (Without Lossless and FirstBad.)  Contracts: what batches' results hold together, in the program and in the reference. -/
import Derived.Test.YtblcmajhdndmfaaDoorLaw4
namespace Go.Proofs.YtblcmajhdndmfaaDoor
open Go.RowKit
set_option linter.unusedVariables false
set_option maxRecDepth 100000

def losslessO (o : GOut) : Bool := decide (o.code = 0) && decide (o.l.length = 0)
def bytesOfL (l : List GOut) : Nat := (l.map fun o => o.b.length).sum
def lossSumL (l : List GOut) : Nat := (l.map fun o => o.l.length).sum
def goodN (o : GOut) : Nat := if o.code = 0 then 1 else 0
def goodOfL (l : List GOut) : Nat := (l.map goodN).sum
def isBadO (o : GOut) : Bool := !(decide (o.code = 0))
def firstBadL (l : List GOut) : Int := idxOf isBadO l

theorem bytesOfL_le (l : List GOut) : bytesOfL l ≤ bulkOutS l := by
  unfold bytesOfL bulkOutS
  induction l with
  | nil => simp
  | cons a l ih => simp only [List.map_cons, List.sum_cons, List.length_cons, bulkOut] at ih ⊢; omega
theorem lossSumL_le (l : List GOut) : lossSumL l ≤ bulkOutS l := by
  unfold lossSumL bulkOutS
  induction l with
  | nil => simp
  | cons a l ih => simp only [List.map_cons, List.sum_cons, List.length_cons, bulkOut, bulkLossS] at ih ⊢; omega
theorem goodOfL_le (l : List GOut) : goodOfL l ≤ l.length := by
  unfold goodOfL
  induction l with
  | nil => simp
  | cons a l ih => simp only [List.map_cons, List.sum_cons, List.length_cons, goodN] at ih ⊢; split <;> omega

theorem specBytesOf_any (l : List GOut) (A : Option Addr) (c : Nat) (w : World) (hn : bulkOutS l ≤ 1048576) (hl : SA w l A c) :
    Calls Tryd.prog 20 #[.slice A l.length c] w (Ret w (.int .i64 (bytesOfL l : Nat))) := by
  have hm : l.length ≤ 1048576 := by unfold bulkOutS at hn; omega
  have ht : bytesOfL l ≤ 1048576 := Nat.le_trans (bytesOfL_le l) hn
  clear hn
  obtain ⟨r, hr⟩ : ∃ r, r = bytesOfL l := ⟨_, rfl⟩
  rw [← hr] at ht ⊢
  have R := Lib.hid (show r = (l.map fun o => o.b.length).sum from hr); clear hr
  have E := Lib.hid hl; clear hl
  go_enter Tryd.func20, Tryd.ntmps20
  go_wp2_with fail
  go_loopg [3, 4] l.length (fun gk s i wr => ∃ k m : Nat, k ≤ l.length ∧ i = .int .i64 k ∧ gk = l.length - k ∧ s = .int .i64 m ∧ Hid (m + ((l.drop k).map fun o => o.b.length).sum = r) ∧ Below w.heap.size w wr)
  case atStart => exact ⟨0, 0, by omega, rfl, by omega, rfl, by have := R.out; show 0 + _ = _; rw [this]; simp, bRf w⟩
  case round =>
    obtain ⟨k, m, hk, rfl, rfl, rfl, hT, hbel⟩ := hrel
    by_cases hlt : k < l.length
    · obtain ⟨b, off, A1, c1, A2, c2, rfl, hb, hI, hs1, hs2, k0, k1, k2⟩ := (E.out.below hbel).out_at hlt
      have D := Lib.hid (sum_drop (fun o : GOut => o.b.length) l hlt)
      have hm2 : m + l[k].b.length ≤ 1048576 := by have := D.out; have := hT.out; omega
      have hm1 : l[k].b.length ≤ 1048576 := by omega
      clear hs1 hs2
      go_wp2_with fail
      go_roundg (l.length - (k + 1))
      case measure => omega
      case rel => exact ⟨k + 1, m + l[k].b.length, by omega, by go_num, rfl, by go_num, by have := D.out; have := hT.out; show _ = _; omega, hbel⟩
    · have e : k = l.length := by omega
      go_wp2_with fail
      go_ret
      exact ⟨by have := hT.out; rw [e, List.drop_length] at this; simp at this; rw [← this]; rfl, hbel⟩

theorem implBytesOf_any (l : List GOut) (A : Option Addr) (c : Nat) (w : World) (hn : bulkOutS l ≤ 1048576) (hl : SA w l A c) :
    Calls Tryd.prog 25 #[.slice A l.length c] w (Ret w (.int .i64 (bytesOfL l : Nat))) := by
  have hm : l.length ≤ 1048576 := by unfold bulkOutS at hn; omega
  have ht : bytesOfL l ≤ 1048576 := Nat.le_trans (bytesOfL_le l) hn
  clear hn
  obtain ⟨r, hr⟩ : ∃ r, r = bytesOfL l := ⟨_, rfl⟩
  rw [← hr] at ht ⊢
  have R := Lib.hid (show r = (l.map fun o => o.b.length).sum from hr); clear hr
  have E := Lib.hid hl; clear hl
  go_enter Tryd.func25, Tryd.ntmps25
  go_wp2_with fail
  go_loopg [3, 8] l.length (fun gk s i wr => ∃ k m : Nat, k ≤ l.length ∧ i = .int .i64 k ∧ gk = l.length - k ∧ s = .int .i64 m ∧ Hid (m + ((l.drop k).map fun o => o.b.length).sum = r) ∧ Below w.heap.size w wr)
  case atStart => exact ⟨0, 0, by omega, rfl, by omega, rfl, by have := R.out; show 0 + _ = _; rw [this]; simp, bRf w⟩
  case round =>
    obtain ⟨k, m, hk, rfl, rfl, rfl, hT, hbel⟩ := hrel
    by_cases hlt : k < l.length
    · obtain ⟨b, off, A1, c1, A2, c2, rfl, hb, hI, hs1, hs2, k0, k1, k2⟩ := (E.out.below hbel).out_at hlt
      have D := Lib.hid (sum_drop (fun o : GOut => o.b.length) l hlt)
      have hm2 : m + l[k].b.length ≤ 1048576 := by have := D.out; have := hT.out; omega
      have hm1 : l[k].b.length ≤ 1048576 := by omega
      clear hs1 hs2
      go_wp2_with fail
      go_roundg (l.length - (k + 1))
      case measure => omega
      case rel => exact ⟨k + 1, m + l[k].b.length, by omega, by go_num, rfl, by go_num, by have := D.out; have := hT.out; show _ = _; omega, bAl hbel _⟩
    · have e : k = l.length := by omega
      go_wp2_with fail
      go_ret
      exact ⟨by have := hT.out; rw [e, List.drop_length] at this; simp at this; rw [← this]; rfl, hbel⟩

theorem specLossSum_any (l : List GOut) (A : Option Addr) (c : Nat) (w : World) (hn : bulkOutS l ≤ 1048576) (hl : SA w l A c) :
    Calls Tryd.prog 21 #[.slice A l.length c] w (Ret w (.int .i64 (lossSumL l : Nat))) := by
  have hm : l.length ≤ 1048576 := by unfold bulkOutS at hn; omega
  have ht : lossSumL l ≤ 1048576 := Nat.le_trans (lossSumL_le l) hn
  clear hn
  obtain ⟨r, hr⟩ : ∃ r, r = lossSumL l := ⟨_, rfl⟩
  rw [← hr] at ht ⊢
  have R := Lib.hid (show r = (l.map fun o => o.l.length).sum from hr); clear hr
  have E := Lib.hid hl; clear hl
  go_enter Tryd.func21, Tryd.ntmps21
  go_wp2_with fail
  go_loopg [3, 4] l.length (fun gk s i wr => ∃ k m : Nat, k ≤ l.length ∧ i = .int .i64 k ∧ gk = l.length - k ∧ s = .int .i64 m ∧ Hid (m + ((l.drop k).map fun o => o.l.length).sum = r) ∧ Below w.heap.size w wr)
  case atStart => exact ⟨0, 0, by omega, rfl, by omega, rfl, by have := R.out; show 0 + _ = _; rw [this]; simp, bRf w⟩
  case round =>
    obtain ⟨k, m, hk, rfl, rfl, rfl, hT, hbel⟩ := hrel
    by_cases hlt : k < l.length
    · obtain ⟨b, off, A1, c1, A2, c2, rfl, hb, hI, hs1, hs2, k0, k1, k2⟩ := (E.out.below hbel).out_at hlt
      have D := Lib.hid (sum_drop (fun o : GOut => o.l.length) l hlt)
      have hm2 : m + l[k].l.length ≤ 1048576 := by have := D.out; have := hT.out; omega
      have hm1 : l[k].l.length ≤ 1048576 := by omega
      clear hs1 hs2
      go_wp2_with fail
      go_roundg (l.length - (k + 1))
      case measure => omega
      case rel => exact ⟨k + 1, m + l[k].l.length, by omega, by go_num, rfl, by go_num, by have := D.out; have := hT.out; show _ = _; omega, hbel⟩
    · have e : k = l.length := by omega
      go_wp2_with fail
      go_ret
      exact ⟨by have := hT.out; rw [e, List.drop_length] at this; simp at this; rw [← this]; rfl, hbel⟩

theorem implLossSum_any (l : List GOut) (A : Option Addr) (c : Nat) (w : World) (hn : bulkOutS l ≤ 1048576) (hl : SA w l A c) :
    Calls Tryd.prog 26 #[.slice A l.length c] w (Ret w (.int .i64 (lossSumL l : Nat))) := by
  have hm : l.length ≤ 1048576 := by unfold bulkOutS at hn; omega
  have ht : lossSumL l ≤ 1048576 := Nat.le_trans (lossSumL_le l) hn
  clear hn
  obtain ⟨r, hr⟩ : ∃ r, r = lossSumL l := ⟨_, rfl⟩
  rw [← hr] at ht ⊢
  have R := Lib.hid (show r = (l.map fun o => o.l.length).sum from hr); clear hr
  have E := Lib.hid hl; clear hl
  go_enter Tryd.func26, Tryd.ntmps26
  go_wp2_with fail
  go_loopg [3, 8] l.length (fun gk s i wr => ∃ k m : Nat, k ≤ l.length ∧ i = .int .i64 k ∧ gk = l.length - k ∧ s = .int .i64 m ∧ Hid (m + ((l.drop k).map fun o => o.l.length).sum = r) ∧ Below w.heap.size w wr)
  case atStart => exact ⟨0, 0, by omega, rfl, by omega, rfl, by have := R.out; show 0 + _ = _; rw [this]; simp, bRf w⟩
  case round =>
    obtain ⟨k, m, hk, rfl, rfl, rfl, hT, hbel⟩ := hrel
    by_cases hlt : k < l.length
    · obtain ⟨b, off, A1, c1, A2, c2, rfl, hb, hI, hs1, hs2, k0, k1, k2⟩ := (E.out.below hbel).out_at hlt
      have D := Lib.hid (sum_drop (fun o : GOut => o.l.length) l hlt)
      have hm2 : m + l[k].l.length ≤ 1048576 := by have := D.out; have := hT.out; omega
      have hm1 : l[k].l.length ≤ 1048576 := by omega
      clear hs1 hs2
      go_wp2_with fail
      go_roundg (l.length - (k + 1))
      case measure => omega
      case rel => exact ⟨k + 1, m + l[k].l.length, by omega, by go_num, rfl, by go_num, by have := D.out; have := hT.out; show _ = _; omega, bAl hbel _⟩
    · have e : k = l.length := by omega
      go_wp2_with fail
      go_ret
      exact ⟨by have := hT.out; rw [e, List.drop_length] at this; simp at this; rw [← this]; rfl, hbel⟩

theorem isBad_any (o : GOut) (A A' : Option Addr) (c c' : Nat) (w : World) :
    Calls Tryd.prog 27 #[.agg #[.slice A o.b.length c, .slice A' o.l.length c', .int .i64 o.code]] w (Ret w (.bool (isBadO o))) := by
  have b0 := Lib.hid (bAl (bRf w) (.cells #[.slice A o.b.length c, .slice A' o.l.length c', .int .i64 o.code] 45))
  obtain ⟨r, hr⟩ : ∃ r, r = isBadO o := ⟨_, rfl⟩
  rw [← hr]
  have R := Lib.hid hr; clear hr
  rcases Decidable.em (o.code = 0) with h1 | h1
  · have h1' : (o.code != 0) = false := by simpa using h1
    have R' := Lib.hid (R.out.trans (show isBadO o = false by simp [isBadO, h1]))
    clear h1
    go_enter Tryd.func27, Tryd.ntmps27
    go_wp2_with fail
    go_ret
    exact ⟨by rw [R'.out]; rfl, b0.out⟩
  · have h1' : (o.code != 0) = true := by simpa using h1
    have R' := Lib.hid (R.out.trans (show isBadO o = true by simp [isBadO, h1]))
    clear h1
    go_enter Tryd.func27, Tryd.ntmps27
    go_wp2_with fail
    go_ret
    exact ⟨by rw [R'.out]; rfl, b0.out⟩

theorem specGoodOf_any (l : List GOut) (A : Option Addr) (c : Nat) (w : World) (hn : bulkOutS l ≤ 1048576) (hl : SA w l A c) :
    Calls Tryd.prog 19 #[.slice A l.length c] w (Ret w (.int .i64 (goodOfL l : Nat))) := by
  have hm : l.length ≤ 1048576 := by unfold bulkOutS at hn; omega
  have ht : goodOfL l ≤ 1048576 := Nat.le_trans (goodOfL_le l) hm
  clear hn
  obtain ⟨r, hr⟩ : ∃ r, r = goodOfL l := ⟨_, rfl⟩
  rw [← hr] at ht ⊢
  have R := Lib.hid (show r = (l.map goodN).sum from hr); clear hr
  have E := Lib.hid hl; clear hl
  go_enter Tryd.func19, Tryd.ntmps19
  go_wp2_with fail
  go_loopg [3, 4] l.length (fun gk s i wr => ∃ k m : Nat, k ≤ l.length ∧ i = .int .i64 k ∧ gk = l.length - k ∧ s = .int .i64 m ∧ Hid (m + ((l.drop k).map goodN).sum = r) ∧ Below w.heap.size w wr)
  case atStart => exact ⟨0, 0, by omega, rfl, by omega, rfl, by have := R.out; show 0 + _ = _; rw [this]; simp, bRf w⟩
  case round =>
    obtain ⟨k, m, hk, rfl, rfl, rfl, hT, hbel⟩ := hrel
    by_cases hlt : k < l.length
    · obtain ⟨b, off, A1, c1, A2, c2, rfl, hb, hI, hs1, hs2, k0, k1, k2⟩ := (E.out.below hbel).out_at hlt
      have D := Lib.hid (sum_drop goodN l hlt)
      clear hs1 hs2
      rcases Decidable.em (l[k].code = 0) with h1 | h1
      · have h1' : (l[k].code == 0) = true := by simpa using h1
        have G := Lib.hid (show goodN l[k] = 1 by simp [goodN, h1])
        have hm2 : m + 1 ≤ 1048576 := by have := D.out; have := hT.out; have := G.out; omega
        clear h1
        go_wp2_with fail
        go_roundg (l.length - (k + 1))
        case measure => omega
        case rel => exact ⟨k + 1, m + 1, by omega, by go_num, rfl, by go_num, by have := D.out; have := hT.out; have := G.out; show _ = _; omega, hbel⟩
      · have h1' : (l[k].code == 0) = false := by simpa using h1
        have G := Lib.hid (show goodN l[k] = 0 by simp [goodN, h1])
        clear h1
        go_wp2_with fail
        go_roundg (l.length - (k + 1))
        case measure => omega
        case rel => exact ⟨k + 1, m, by omega, by go_num, rfl, rfl, by have := D.out; have := hT.out; have := G.out; show _ = _; omega, hbel⟩
    · have e : k = l.length := by omega
      go_wp2_with fail
      go_ret
      exact ⟨by have := hT.out; rw [e, List.drop_length] at this; simp at this; rw [← this]; rfl, hbel⟩

theorem implGoodOf_any (l : List GOut) (A : Option Addr) (c : Nat) (w : World) (hn : bulkOutS l ≤ 1048576) (hl : SA w l A c) :
    Calls Tryd.prog 24 #[.slice A l.length c] w (Ret w (.int .i64 (goodOfL l : Nat))) := by
  have hm : l.length ≤ 1048576 := by unfold bulkOutS at hn; omega
  have ht : goodOfL l ≤ 1048576 := Nat.le_trans (goodOfL_le l) hm
  clear hn
  obtain ⟨r, hr⟩ : ∃ r, r = goodOfL l := ⟨_, rfl⟩
  rw [← hr] at ht ⊢
  have R := Lib.hid (show r = (l.map goodN).sum from hr); clear hr
  have E := Lib.hid hl; clear hl
  go_enter Tryd.func24, Tryd.ntmps24
  go_wp2_with fail
  go_loopg [3, 8] l.length (fun gk s i wr => ∃ k m : Nat, k ≤ l.length ∧ i = .int .i64 k ∧ gk = l.length - k ∧ s = .int .i64 m ∧ Hid (m + ((l.drop k).map goodN).sum = r) ∧ Below w.heap.size w wr)
  case atStart => exact ⟨0, 0, by omega, rfl, by omega, rfl, by have := R.out; show 0 + _ = _; rw [this]; simp, bRf w⟩
  case round =>
    obtain ⟨k, m, hk, rfl, rfl, rfl, hT, hbel⟩ := hrel
    by_cases hlt : k < l.length
    · obtain ⟨b, off, A1, c1, A2, c2, rfl, hb, hI, hs1, hs2, k0, k1, k2⟩ := (E.out.below hbel).out_at hlt
      have D := Lib.hid (sum_drop goodN l hlt)
      clear hs1 hs2
      rcases Decidable.em (l[k].code = 0) with h1 | h1
      · have G := Lib.hid (show goodN l[k] = 1 by simp [goodN, h1])
        have G' := Lib.hid (show isBadO l[k] = false by simp [isBadO, h1])
        have hm2 : m + 1 ≤ 1048576 := by have := D.out; have := hT.out; have := G.out; omega
        clear h1
        go_wp2_with fail
        refine (isBad_any l[k] A1 A2 c1 c2 _).mono ?_
        rintro e w1 ⟨rfl, hb1⟩
        have b1 := Lib.hid (bTr (bAl hbel _) hb1)
        clear hb1
        rw [G'.out]
        go_wp2_with fail
        go_roundg (l.length - (k + 1))
        case measure => omega
        case rel => exact ⟨k + 1, m + 1, by omega, by go_num, rfl, by go_num, by have := D.out; have := hT.out; have := G.out; show _ = _; omega, b1.out⟩
      · have G := Lib.hid (show goodN l[k] = 0 by simp [goodN, h1])
        have G' := Lib.hid (show isBadO l[k] = true by simp [isBadO, h1])
        clear h1
        go_wp2_with fail
        refine (isBad_any l[k] A1 A2 c1 c2 _).mono ?_
        rintro e w1 ⟨rfl, hb1⟩
        have b1 := Lib.hid (bTr (bAl hbel _) hb1)
        clear hb1
        rw [G'.out]
        go_wp2_with fail
        go_roundg (l.length - (k + 1))
        case measure => omega
        case rel => exact ⟨k + 1, m, by omega, by go_num, rfl, rfl, by have := D.out; have := hT.out; have := G.out; show _ = _; omega, b1.out⟩
    · have e : k = l.length := by omega
      go_wp2_with fail
      go_ret
      exact ⟨by have := hT.out; rw [e, List.drop_length] at this; simp at this; rw [← this]; rfl, hbel⟩

end Go.Proofs.YtblcmajhdndmfaaDoor
