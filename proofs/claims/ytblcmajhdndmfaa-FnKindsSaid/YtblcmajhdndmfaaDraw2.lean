/- Contracts of the reference's draws: numbers. -/
import Derived.Test.YtblcmajhdndmfaaDraw1
namespace Go.Proofs.Ytblcmajhdndmfaa
open Go.RowKit
set_option linter.unusedVariables false
set_option maxRecDepth 100000

theorem RetI.mono {g : Nat} {code : List UInt8} {lo hi lo' hi' : Int} {w : World} {e : Ending} {w' : World} (h : RetI g code lo hi w e w') (h1 : lo' ≤ lo) (h2 : hi ≤ hi') : RetI g code lo' hi' w e w' := by
  obtain ⟨k, he, h3, h4, h5⟩ := h
  exact ⟨k, he, by omega, by omega, h5⟩

theorem l1Below_any (g : Nat) (code : List UInt8) (n : Int) (w : World) (hn : 0 < n) (hn2 : n ≤ 16777216) (hc : Cur w g code) :
    Calls Try.prog 111 #[.pointer (some ⟨g, 0, none⟩), .int .i64 n] w (RetI g code 0 (n - 1) w) := by
  have HC := Lib.hid hc; clear hc
  have hn0 : ¬ (n ≤ 0) := by omega
  by_cases h256 : n ≤ 256
  · go_enter Try.func111, Try.ntmps111
    go_wp2_with fail
    refine (l1Byte_any g code w HC.out).mono ?_
    rintro e w1 ⟨k, rfl, hk0, hk1, hce, hcur⟩
    have HX := Lib.hid (And.intro hce hcur); clear hce hcur
    have hm0 : 0 ≤ k % n := Int.emod_nonneg _ (by omega)
    have hm1 : k % n < n := Int.emod_lt_of_pos _ hn
    have htm : k.tmod n = k % n := Int.tmod_eq_emod_of_nonneg hk0
    go_wp2_with fail
    go_ret
    exact ⟨k % n, rfl, hm0, by omega, HX.out.1, HX.out.2⟩
  · go_enter Try.func111, Try.ntmps111
    go_wp2_with fail
    refine (l1Byte_any g code w HC.out).mono ?_
    rintro e w1 ⟨k, rfl, hk0, hk1, hce, hcur⟩
    have HX := Lib.hid (And.intro hce hcur); clear hce hcur
    go_wp2_with fail
    refine (l1Byte_any g code w1 HX.out.2).mono ?_
    rintro e w2 ⟨k2, rfl, hk20, hk21, hce, hcur⟩
    have HX2 := Lib.hid (And.intro (HX.out.1.trans hce) hcur); clear hce hcur
    go_wp2_with fail
    refine (l1Byte_any g code w2 HX2.out.2).mono ?_
    rintro e w3 ⟨k3, rfl, hk30, hk31, hce, hcur⟩
    have HX3 := Lib.hid (And.intro (HX2.out.1.trans hce) hcur); clear hce hcur
    have hs0 : 0 ≤ k * 65536 + k2 * 256 + k3 := by omega
    have hm0 : 0 ≤ (k * 65536 + k2 * 256 + k3) % n := Int.emod_nonneg _ (by omega)
    have hm1 : (k * 65536 + k2 * 256 + k3) % n < n := Int.emod_lt_of_pos _ hn
    have htm : (k * 65536 + k2 * 256 + k3).tmod n = (k * 65536 + k2 * 256 + k3) % n := Int.tmod_eq_emod_of_nonneg hs0
    go_wp2_with fail
    go_ret
    exact ⟨_, rfl, hm0, by omega, HX3.out.1, HX3.out.2⟩

theorem l1Once_any (g : Nat) (code : List UInt8) (n : Int) (w : World) (hn : 0 < n) (hn2 : n ≤ 16777216) (hc : Cur w g code) :
    Calls Try.prog 149 #[.pointer (some ⟨g, 0, none⟩), .int .i64 n] w (fun e w' => ∃ b : Bool, e = .returned (.bool b) ∧ Ce g w w' ∧ Cur w' g code) := by
  go_enter Try.func149, Try.ntmps149
  go_wp2_with fail
  refine (l1Below_any g code n w hn hn2 hc).mono ?_
  rintro e w1 ⟨k, rfl, hk0, hk1, hce, hcur⟩
  have HX := Lib.hid (And.intro hce hcur); clear hce hcur
  go_wp2_with fail
  go_ret
  exact ⟨_, rfl, HX.out.1, HX.out.2⟩

theorem l1Int_any (g : Nat) (code : List UInt8) (b n : Nat) (t : TypeId) (l : List Int) (lo hi : Int) (w : World) (hb : Blk w b t (l.map (Value.int .i64)).toArray) (hbg : b ≠ g) (hn : n = l.length) (hl : 0 < n) (hl2 : (n : Int) ≤ 16777216) (hr : ∀ x ∈ l, lo ≤ x ∧ x ≤ hi) (hc : Cur w g code) :
    Calls Try.prog 151 #[.pointer (some ⟨g, 0, none⟩), .slice (some ⟨b, 0, none⟩) n n] w (RetI g code lo hi w) := by
  subst hn
  have HB := Lib.hid (And.intro hb hr); clear hb hr
  go_enter Try.func151, Try.ntmps151
  go_wp2_with fail
  refine (l1Below_any g code l.length w (by omega) (by omega) hc).mono ?_
  rintro e w1 ⟨k, rfl, hk0, hk1, hce, hcur⟩
  obtain ⟨j, rfl⟩ : ∃ j : Nat, k = j := ⟨k.toNat, by omega⟩
  have hj : j < l.length := by omega
  have hB1 := hce.blk HB.out.1 hbg
  have hcell : w1.cell? ⟨b, j, none⟩ = some (.int .i64 l[j]) := by
    rw [hB1.cell j]; simp [hj]
  have hjn : (j : Int) < l.length := by omega
  have hlo := HB.out.2 l[j] (List.getElem_mem hj)
  have HX := Lib.hid (And.intro hce hcur); clear hce hcur hB1
  go_wp2_with fail
  go_ret
  exact ⟨l[j], rfl, hlo.1, hlo.2, HX.out.1, HX.out.2⟩

def RetT (g : Nat) (code : List UInt8) (l : List ByteArray) (w : World) (e : Ending) (w' : World) : Prop :=
  ∃ s : ByteArray, e = .returned (.string s) ∧ s ∈ l ∧ Ce g w w' ∧ Cur w' g code
theorem l1Str_any (g : Nat) (code : List UInt8) (b n : Nat) (t : TypeId) (l : List ByteArray) (w : World) (hb : Blk w b t (l.map Value.string).toArray) (hbg : b ≠ g) (hn : n = l.length) (hl : 0 < n) (hl2 : (n : Int) ≤ 16777216) (hc : Cur w g code) :
    Calls Try.prog 155 #[.pointer (some ⟨g, 0, none⟩), .slice (some ⟨b, 0, none⟩) n n] w (RetT g code l w) := by
  subst hn
  have HB := Lib.hid hb; clear hb
  go_enter Try.func155, Try.ntmps155
  go_wp2_with fail
  refine (l1Below_any g code l.length w (by omega) (by omega) hc).mono ?_
  rintro e w1 ⟨k, rfl, hk0, hk1, hce, hcur⟩
  obtain ⟨j, rfl⟩ : ∃ j : Nat, k = j := ⟨k.toNat, by omega⟩
  have hj : j < l.length := by omega
  have hB1 := hce.blk HB.out hbg
  have hcell : w1.cell? ⟨b, j, none⟩ = some (.string l[j]) := by
    rw [hB1.cell j]; simp [hj]
  have hjn : (j : Int) < l.length := by omega
  have HX := Lib.hid (And.intro hce hcur); clear hce hcur hB1
  go_wp2_with fail
  go_ret
  exact ⟨l[j], rfl, List.getElem_mem hj, HX.out.1, HX.out.2⟩

theorem l1Num_any (g : Nat) (code : List UInt8) (w : World) (hc : Cur w g code) :
    Calls Try.prog 150 #[.pointer (some ⟨g, 0, none⟩)] w (RetI g code 0 1000000000000000 w) := by
  go_enter Try.func150, Try.ntmps150
  go_wp2_with fail
  refine (l1Below_any g code 5 w (by omega) (by omega) hc).mono ?_
  rintro e w1 ⟨k, rfl, hk0, hk1, hce, hcur⟩
  have hcl := hcur.lt
  have HX := Lib.hid (And.intro hce hcur); clear hce hcur
  have hk : k = 0 ∨ k = 1 ∨ k = 2 ∨ k = 3 ∨ k = 4 := by omega
  rcases hk with rfl | rfl | rfl | rfl | rfl
  · go_wp2_with fail
    refine (l1Below_any g code 70000 w1 (by omega) (by omega) HX.out.2).mono ?_
    rintro e w2 ⟨k, rfl, hk0, hk1, hce, hcur⟩
    have HY := Lib.hid (And.intro (HX.out.1.trans hce) hcur); clear hce hcur
    go_wp2_with fail
    go_ret
    exact ⟨k, rfl, hk0, by omega, HY.out.1, HY.out.2⟩
  · go_wp2_with fail
    refine (l1Int_any g code w1.heap.size 9 3 [0, 1, 9, 10, 255, 256, 65535, 65536, 1000000000000000] 0 1000000000000000 _ (Blk.new w1 _ _) (by omega) rfl (by omega) (by omega) (by decide) (HX.out.2.below (bAl (bRf w1) _))).mono ?_
    rintro e w2 ⟨k, rfl, hk0, hk1, hce, hcur⟩
    have HY := Lib.hid (And.intro ((HX.out.1.add _ (by omega)).trans hce) hcur); clear hce hcur
    go_wp2_with fail
    go_ret
    exact ⟨k, rfl, hk0, by omega, HY.out.1, HY.out.2⟩
  · go_wp2_with fail
    refine (l1Below_any g code 1000000 w1 (by omega) (by omega) HX.out.2).mono ?_
    rintro e w2 ⟨k, rfl, hk0, hk1, hce, hcur⟩
    have HY := Lib.hid (And.intro (HX.out.1.trans hce) hcur); clear hce hcur
    go_wp2_with fail
    refine (l1Below_any g code 1000000 w2 (by omega) (by omega) HY.out.2).mono ?_
    rintro e w3 ⟨k2, rfl, hk20, hk21, hce, hcur⟩
    have HZ := Lib.hid (And.intro (HY.out.1.trans hce) hcur); clear hce hcur
    have hm0 : 0 ≤ k * k2 := Int.mul_nonneg hk0 hk20
    have hm1 : k * k2 ≤ 999999 * 999999 := Int.mul_le_mul hk1 hk21 hk20 (by omega)
    go_wp2_with fail
    go_ret
    exact ⟨k * k2, rfl, hm0, by omega, HZ.out.1, HZ.out.2⟩
  · go_wp2_with fail
    refine (l1Below_any g code 50 w1 (by omega) (by omega) HX.out.2).mono ?_
    rintro e w2 ⟨k, rfl, hk0, hk1, hce, hcur⟩
    have HY := Lib.hid (And.intro (HX.out.1.trans hce) hcur); clear hce hcur
    obtain ⟨j, rfl⟩ : ∃ j : Nat, k = j := ⟨k.toNat, by omega⟩
    go_wp2_with fail
    go_ret
    have hp : (2 : Nat) ^ j ≤ 2 ^ 49 := Nat.pow_le_pow_right (by decide) (by omega)
    have hp0 : 0 < (2 : Nat) ^ j := Nat.pow_pos (by decide)
    have hp2 : ((2 ^ j : Nat) : Int) = (2 : Int) ^ j := by simp
    have hw : wrap64 ((2 : Int) ^ j) = ((2 ^ j : Nat) : Int) := by unfold wrap64; omega
    exact ⟨((2 ^ j : Nat) : Int), by rw [← hw]; rfl, by omega, by omega, HY.out.1, HY.out.2⟩
  · go_wp2_with fail
    refine (l1Below_any g code 30 w1 (by omega) (by omega) HX.out.2).mono ?_
    rintro e w2 ⟨k, rfl, hk0, hk1, hce, hcur⟩
    have HY := Lib.hid (And.intro (HX.out.1.trans hce) hcur); clear hce hcur
    go_wp2_with fail
    go_ret
    exact ⟨k, rfl, hk0, by omega, HY.out.1, HY.out.2⟩
end Go.Proofs.Ytblcmajhdndmfaa
