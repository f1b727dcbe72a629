/- Contracts: how many values a tree holds; a kind's name. -/
import Derived.Test.YtblcmajhdndmfaaKindsC
import Derived.Test.YtblcmajhdndmfaaLawV
import Derived.Test.YtblcmajhdndmfaaPlace
import Derived.Test.YtblcmajhdndmfaaKindN
namespace Go.Proofs.Ytblcmajhdndmfaa
open Go.RowKit
set_option linter.unusedVariables false
set_option maxRecDepth 100000

def cntGv (v : GVal) : Nat := (preG v).length
def cntGs (l : List GVal) : Nat := (preL l).length
theorem cntG_eq (v : GVal) : cntGv v = 1 + cntGs v.l := preG_len_eq v
theorem cntGs_take {l : List GVal} {k : Nat} (hk : k < l.length) : cntGs (l.take (k + 1)) = cntGs (l.take k) + cntGv l[k] := preL_take hk
theorem cntG_le (v : GVal) : cntGv v ≤ 1 + bulkVal v := preG_len v
theorem cntGs_le (l : List GVal) : cntGs l ≤ bulkVals l := preL_len l
theorem bulk_child {v : GVal} (hn : bulkVal v ≤ 1048576) : ∀ i (hi : i < v.l.length), bulkVal v.l[i] ≤ 1048576 := fun i hi => by
  have h1 := bulk_take hi
  rw [bulkVal_eq] at hn; omega
theorem cnt_take_le {v : GVal} (hn : bulkVal v ≤ 1048576) {k : Nat} (hk : k < v.l.length) : cntGs (v.l.take k) + cntGv v.l[k] ≤ 1048576 := by
  have h1 := bulk_take hk
  have h2 := cntGs_le (v.l.take k)
  have h3 := cntG_le v.l[k]
  rw [bulkVal_eq] at hn; omega

set_option maxHeartbeats 1000000 in
theorem specCountOf_any (v : GVal) : ∀ (A : Option Addr) (c : Nat) (w : World), bulkVal v ≤ 1048576 → VInt v → SA w v.l A c →
    Calls Try.prog 47 #[.agg #[.int .i64 v.kind, .int .i64 v.n, .int .i64 v.x, .string v.s, .slice A v.l.length c]] w (Ret w (.int .i64 (cntGv v))) := by
  refine GVal.ind (p := fun v => ∀ (A : Option Addr) (c : Nat) (w : World), bulkVal v ≤ 1048576 → VInt v → SA w v.l A c →
    Calls Try.prog 47 #[.agg #[.int .i64 v.kind, .int .i64 v.n, .int .i64 v.x, .string v.s, .slice A v.l.length c]] w (Ret w (.int .i64 (cntGv v)))) (fun v IH A c w hn hI hx => ?_) v
  have B0 := Lib.hid (bAl (bRf w) (.cells #[.int .i64 v.kind, .int .i64 v.n, .int .i64 v.x, .string v.s, .slice A v.l.length c] 40))
  have P0 := Lib.hid (Blk.new w 40 #[.int .i64 v.kind, .int .i64 v.n, .int .i64 v.x, .string v.s, .slice A v.l.length c])
  have E := Lib.hid hx; clear hx
  have IH' := Lib.hid IH; clear IH
  have hbc := Lib.hid (bulk_child hn)
  have hlen : v.l.length ≤ 1048576 := by have h1 := bulkVals_eq v.l; have h2 := bulkVal_eq v; omega
  have htk := Lib.hid (fun k (hk : k < v.l.length) => cnt_take_le hn hk)
  obtain ⟨r, hr⟩ : ∃ r, r = cntGv v := ⟨_, rfl⟩
  rw [← hr]
  have R := Lib.hid hr; clear hr hn hI
  go_enter Try.func47, Try.ntmps47
  go_wp2_with fail
  go_loopg [3, 4] v.l.length (fun gk s i wr => ∃ k m : Nat, k ≤ v.l.length ∧ s = .int .i64 m ∧ Hid (m = 1 + cntGs (v.l.take k)) ∧ i = .int .i64 k ∧ gk = v.l.length - k ∧ Blk wr w.heap.size 40 #[.int .i64 v.kind, .int .i64 v.n, .int .i64 v.x, .string v.s, .slice A v.l.length c] ∧ Below w.heap.size w wr)
  case atStart => exact ⟨0, 1, by omega, rfl, by show _ = _; simp [cntGs, preL], rfl, by omega, P0.out, B0.out⟩
  case round =>
    obtain ⟨k, m, hk, rfl, hm, rfl, rfl, hP, hbel⟩ := hrel
    by_cases hlt : k < v.l.length
    · obtain ⟨b, off, A', c', rfl, hb, hI, hs, k0, k1, k2, k3, k4⟩ := (E.out.below hbel).val_at hlt
      have hi1 : (k : Int) < v.l.length := by omega
      obtain ⟨p0, p1, p2, p3, p4⟩ := hP.c5
      have HS := Lib.hid (And.intro hI hs); clear hI hs
      have HP := Lib.hid (And.intro hP hbel); clear hP hbel
      go_wp2_with fail
      refine (IH'.out k hlt A' c' wr (hbc.out k hlt) HS.out.1 HS.out.2).mono ?_
      rintro e w1 ⟨rfl, hb1⟩
      have hq := htk.out k hlt
      have hmm : m = 1 + cntGs (v.l.take k) := hm.out
      rw [← Nat.add_sub_cancel_left (n := 1) (m := cntGs (v.l.take k)), ← hmm] at hq
      obtain ⟨q, hqq⟩ : ∃ q, q = cntGv v.l[k] := ⟨_, rfl⟩
      rw [← hqq] at hq ⊢
      have HQ := Lib.hid (And.intro hmm hqq)
      have HB := Lib.hid (bTr HP.out.2 hb1)
      have HP1 := Lib.hid (HP.out.1.below hb1)
      clear hb1 hqq hmm
      go_wp2_with fail
      go_roundg (v.l.length - (k + 1))
      case measure => omega
      case rel => exact ⟨k + 1, m + q, by omega, by go_num, by show _ = _; rw [cntGs_take hlt, HQ.out.1, HQ.out.2]; omega, by go_num, rfl, HP1.out, HB.out⟩
    · have e : k = v.l.length := by omega
      subst e
      obtain ⟨p0, p1, p2, p3, p4⟩ := hP.c5
      have he : m = r := by rw [R.out, cntG_eq, hm.out, List.take_length]
      subst he
      have HB := Lib.hid hbel; clear hbel hP hm
      go_wp2_with fail
      go_ret
      exact ⟨rfl, HB.out⟩

set_option maxHeartbeats 1000000 in
theorem implCountOf_any (v : GVal) : ∀ (A : Option Addr) (c : Nat) (w : World), bulkVal v ≤ 1048576 → VInt v → SA w v.l A c →
    Calls Try.prog 46 #[.agg #[.int .i64 v.kind, .int .i64 v.n, .int .i64 v.x, .string v.s, .slice A v.l.length c]] w (Ret w (.int .i64 (cntGv v))) := by
  refine GVal.ind (p := fun v => ∀ (A : Option Addr) (c : Nat) (w : World), bulkVal v ≤ 1048576 → VInt v → SA w v.l A c →
    Calls Try.prog 46 #[.agg #[.int .i64 v.kind, .int .i64 v.n, .int .i64 v.x, .string v.s, .slice A v.l.length c]] w (Ret w (.int .i64 (cntGv v)))) (fun v IH A c w hn hI hx => ?_) v
  have B0 := Lib.hid (bAl (bRf w) (.cells #[.int .i64 v.kind, .int .i64 v.n, .int .i64 v.x, .string v.s, .slice A v.l.length c] 40))
  have P0 := Lib.hid (Blk.new w 40 #[.int .i64 v.kind, .int .i64 v.n, .int .i64 v.x, .string v.s, .slice A v.l.length c])
  have E := Lib.hid hx; clear hx
  have IH' := Lib.hid IH; clear IH
  have hbc := Lib.hid (bulk_child hn)
  have hlen : v.l.length ≤ 1048576 := by have h1 := bulkVals_eq v.l; have h2 := bulkVal_eq v; omega
  have htk := Lib.hid (fun k (hk : k < v.l.length) => cnt_take_le hn hk)
  obtain ⟨r, hr⟩ : ∃ r, r = cntGv v := ⟨_, rfl⟩
  rw [← hr]
  have R := Lib.hid hr; clear hr hn hI
  obtain ⟨p0, p1, p2, p3, p4⟩ := P0.out.c5
  go_enter Try.func46, Try.ntmps46
  go_wp2_with fail
  clear p0 p1 p2 p3 p4
  go_loopg [3, 9] v.l.length (fun gk s i wr => ∃ k m : Nat, k ≤ v.l.length ∧ s = .int .i64 m ∧ Hid (m = 1 + cntGs (v.l.take k)) ∧ i = .int .i64 k ∧ gk = v.l.length - k ∧ Below w.heap.size w wr)
  case atStart => exact ⟨0, 1, by omega, rfl, by show _ = _; simp [cntGs, preL], rfl, by omega, B0.out⟩
  case round =>
    obtain ⟨k, m, hk, rfl, hm, rfl, rfl, hbel⟩ := hrel
    by_cases hlt : k < v.l.length
    · obtain ⟨b, off, A', c', rfl, hb, hI, hs, k0, k1, k2, k3, k4⟩ := (E.out.below hbel).val_at hlt
      have hi1 : (k : Int) < v.l.length := by omega
      have HS := Lib.hid (And.intro hI (hs.below (bAl (bRf wr) (.cells #[.int .i64 v.l[k].kind, .int .i64 v.l[k].n, .int .i64 v.l[k].x, .string v.l[k].s, .slice A' v.l[k].l.length c'] 40)))); clear hI hs
      have HP := Lib.hid (bTr hbel (bAl (bRf wr) (.cells #[.int .i64 v.l[k].kind, .int .i64 v.l[k].n, .int .i64 v.l[k].x, .string v.l[k].s, .slice A' v.l[k].l.length c'] 40))); clear hbel
      go_wp2_with fail
      refine (IH'.out k hlt A' c' _ (hbc.out k hlt) HS.out.1 HS.out.2).mono ?_
      rintro e w1 ⟨rfl, hb1⟩
      have hq := htk.out k hlt
      have hmm : m = 1 + cntGs (v.l.take k) := hm.out
      rw [← Nat.add_sub_cancel_left (n := 1) (m := cntGs (v.l.take k)), ← hmm] at hq
      obtain ⟨q, hqq⟩ : ∃ q, q = cntGv v.l[k] := ⟨_, rfl⟩
      rw [← hqq] at hq ⊢
      have HQ := Lib.hid (And.intro hmm hqq)
      have HB := Lib.hid (bTr HP.out hb1)
      clear hb1 hqq hmm
      go_wp2_with fail
      go_roundg (v.l.length - (k + 1))
      case measure => omega
      case rel => exact ⟨k + 1, m + q, by omega, by go_num, by show _ = _; rw [cntGs_take hlt, HQ.out.1, HQ.out.2]; omega, by go_num, rfl, HB.out⟩
    · have e : k = v.l.length := by omega
      subst e
      have he : m = r := by rw [R.out, cntG_eq, hm.out, List.take_length]
      subst he
      have HB := Lib.hid hbel; clear hbel hm
      go_wp2_with fail
      go_ret
      exact ⟨rfl, HB.out⟩

theorem big_any (code : List UInt8) (A : Option Addr) (c : Nat) (w : World) : Calls Try.prog 43 #[.slice A code.length c] w (Ret w (.bool (decide (1048576 < code.length)))) := by
  by_cases h : 1048576 < code.length
  · have h' : (1048576 : Int) < code.length := by omega
    rw [decide_eq_true h]
    go_enter Try.func43, Try.ntmps43
    go_wp2_with fail
    go_ret
    exact ⟨rfl, bRf w⟩
  · have h' : ¬ ((1048576 : Int) < code.length) := by omega
    rw [decide_eq_false h]
    go_enter Try.func43, Try.ntmps43
    go_wp2_with fail
    go_ret
    exact ⟨rfl, bRf w⟩
end Go.Proofs.Ytblcmajhdndmfaa
