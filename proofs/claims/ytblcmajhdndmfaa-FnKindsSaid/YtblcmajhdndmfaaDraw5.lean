/- Contracts: runes as bytes, in the reference. -/
import Derived.Test.YtblcmajhdndmfaaDraw4
namespace Go.Proofs.Ytblcmajhdndmfaa
open Go.RowKit
set_option linter.unusedVariables false
set_option maxRecDepth 100000

theorem wide_cases (n : Int) : (wideOf n = 0 ∧ encI n = []) ∨ (wideOf n = 1 ∧ 0 ≤ n ∧ n ≤ 127 ∧ encI n = [n]) ∨ (wideOf n = 2 ∧ 128 ≤ n ∧ n ≤ 2047 ∧ encI n = [192 + n / 64, 128 + n % 64]) ∨
    (wideOf n = 3 ∧ 2048 ≤ n ∧ n ≤ 65535 ∧ encI n = [224 + n / 4096, 128 + n / 64 % 64, 128 + n % 64]) ∨ (wideOf n = 4 ∧ 65536 ≤ n ∧ n ≤ 1114111 ∧ encI n = [240 + n / 262144, 128 + n / 4096 % 64, 128 + n / 64 % 64, 128 + n % 64]) := by
  unfold encI
  generalize hW : wideOf n = W
  unfold wideOf at hW
  cases hk : runeOk n with
  | false => rw [hk] at hW; simp at hW; subst hW; left; exact ⟨rfl, rfl⟩
  | true =>
    have h1 := (runeOk_iff.1 hk).1
    rw [hk, if_pos rfl] at hW
    right
    split at hW
    · subst hW; left; exact ⟨rfl, by omega, by omega, rfl⟩
    · right
      split at hW
      · subst hW; left; exact ⟨rfl, by omega, by omega, rfl⟩
      · right
        split at hW
        · subst hW; left; exact ⟨rfl, by omega, by omega, rfl⟩
        · subst hW; right; exact ⟨rfl, by omega, by omega, rfl⟩

set_option maxHeartbeats 2000000 in
theorem specPutRune_any (b : List UInt8) (n : Int) (A : Option Addr) (c : Nat) (w : World) (hn : b.length ≤ 1048576) (hI : I64 n) (hb : SA w b A c) :
    Calls Try.prog 163 #[.slice A b.length c, .int .i64 n] w (RetS w (b ++ encR n)) := by
  have hi1 := hI.1; have hi2 := hI.2
  clear hI
  obtain ⟨r, hr⟩ : ∃ r, r = b ++ encR n := ⟨_, rfl⟩
  rw [← hr]
  unfold encR at hr
  have HR0 := Lib.hid hr; clear hr
  have E := Lib.hid hb; clear hb
  go_enter Try.func163, Try.ntmps163
  go_wp2_with (at_builtin; (refine app_list rfl _ _ 22 rfl (v := .slice (some ⟨_, 0, none⟩) 0 0) (u := .slice A b.length c) rfl rfl (run_app_P u8Plain 22 _ w.heap.size 5 (.int .u8 0) 1 Try.underlying22 infoU8 rfl (by decide) _ [] b A c (OwnF.lit0' _ _ _ _ (by simp) (by omega)) (E.out.below (bAl (bRf w) _)) (by simp; omega) (by simp; unfold maxLen; omega) (by simp)) ?_; rintro v1 w1 ⟨ho, hbl, hloc, hg⟩; rw [List.nil_append] at ho; obtain ⟨A1, c1, rfl⟩ := ho.form; have HO := Lib.hid (And.intro ho ((bAl (bRf w) _).trans hbl)); clear ho hbl hloc hg))
  refine (specWideOf_any n w1).mono ?_
  rintro e w2 ⟨rfl, hb2⟩
  have HO2 := Lib.hid (And.intro (HO.out.1.below hb2) (bTr HO.out.2 hb2)); clear hb2
  have hz2 : w.heap.size ≤ w2.heap.size := HO2.out.2.size
  rcases wide_cases n with ⟨hw, he⟩ | ⟨hw, h1, h2, he⟩ | ⟨hw, h1, h2, he⟩ | ⟨hw, h1, h2, he⟩ | ⟨hw, h1, h2, he⟩
  · rw [hw]
    have hr := HR0.out
    rw [he] at hr
    simp only [List.map_nil, List.append_nil] at hr
    have HR := Lib.hid hr; clear hr hw he
    go_wp2_with fail
    go_ret
    exact ⟨A1, c1, by rw [HR.out]; rfl, by rw [HR.out]; exact HO2.out.1.sf.2, HO2.out.2⟩
  · rw [hw]
    have hr := HR0.out
    rw [he] at hr
    have hes : ∀ e ∈ ([n] : List Int), 0 ≤ e ∧ e ≤ 255 := by
      intro e hm
      simp only [List.mem_cons, List.mem_nil_iff, or_false] at hm
      omega
    have HR := Lib.hid (And.intro hr hes); clear hr hw he hes
    go_wp2_with (at_builtin; (refine app_list rfl _ _ 22 rfl (v := .slice A1 b.length c1) (u := .slice (some ⟨w2.heap.size, 0, none⟩) 1 1) (by rfl) (by rfl) (run_app_P u8Plain 22 _ w.heap.size 5 (.int .u8 0) 1 Try.underlying22 infoU8 rfl (by decide) _ b (([n] : List Int).map byteOf) _ _ (HO2.out.1.alloc _) (litU8 w2 _ [n] 1 rfl HR.out.2 (by simp)) (by simp; omega) (by simp; unfold maxLen; omega) (by simp; omega)) ?_; rintro v3 w3 ⟨ho, hbl, hloc, hg⟩; rw [← HR.out.1] at ho; obtain ⟨A3, c3, rfl⟩ := ho.form; have HO3 := Lib.hid (And.intro ho (HO2.out.2.trans (Below.trans ((Below.refl _ _).alloc hz2 _) hbl))); clear ho hbl hloc hg))
    go_ret
    exact ⟨A3, c3, rfl, HO3.out.1.sf.2, HO3.out.2⟩
  · rw [hw]
    have hr := HR0.out
    rw [he] at hr
    have hes : ∀ e ∈ ([192 + n / 64, 128 + n % 64] : List Int), 0 ≤ e ∧ e ≤ 255 := by
      intro e hm
      simp only [List.mem_cons, List.mem_nil_iff, or_false] at hm
      omega
    have HR := Lib.hid (And.intro hr hes); clear hr hw he hes
    go_wp2_with (at_builtin; (refine app_list rfl _ _ 22 rfl (v := .slice A1 b.length c1) (u := .slice (some ⟨w2.heap.size, 0, none⟩) 2 2) (by rfl) (by rfl) (run_app_P u8Plain 22 _ w.heap.size 5 (.int .u8 0) 1 Try.underlying22 infoU8 rfl (by decide) _ b (([192 + n / 64, 128 + n % 64] : List Int).map byteOf) _ _ (HO2.out.1.alloc _) (litU8 w2 _ [192 + n / 64, 128 + n % 64] 2 rfl HR.out.2 (by simp)) (by simp; omega) (by simp; unfold maxLen; omega) (by simp; omega)) ?_; rintro v3 w3 ⟨ho, hbl, hloc, hg⟩; rw [← HR.out.1] at ho; obtain ⟨A3, c3, rfl⟩ := ho.form; have HO3 := Lib.hid (And.intro ho (HO2.out.2.trans (Below.trans ((Below.refl _ _).alloc hz2 _) hbl))); clear ho hbl hloc hg))
    go_ret
    exact ⟨A3, c3, rfl, HO3.out.1.sf.2, HO3.out.2⟩
  · rw [hw]
    have hr := HR0.out
    rw [he] at hr
    have hes : ∀ e ∈ ([224 + n / 4096, 128 + n / 64 % 64, 128 + n % 64] : List Int), 0 ≤ e ∧ e ≤ 255 := by
      intro e hm
      simp only [List.mem_cons, List.mem_nil_iff, or_false] at hm
      omega
    have HR := Lib.hid (And.intro hr hes); clear hr hw he hes
    go_wp2_with (at_builtin; (refine app_list rfl _ _ 22 rfl (v := .slice A1 b.length c1) (u := .slice (some ⟨w2.heap.size, 0, none⟩) 3 3) (by rfl) (by rfl) (run_app_P u8Plain 22 _ w.heap.size 5 (.int .u8 0) 1 Try.underlying22 infoU8 rfl (by decide) _ b (([224 + n / 4096, 128 + n / 64 % 64, 128 + n % 64] : List Int).map byteOf) _ _ (HO2.out.1.alloc _) (litU8 w2 _ [224 + n / 4096, 128 + n / 64 % 64, 128 + n % 64] 3 rfl HR.out.2 (by simp)) (by simp; omega) (by simp; unfold maxLen; omega) (by simp; omega)) ?_; rintro v3 w3 ⟨ho, hbl, hloc, hg⟩; rw [← HR.out.1] at ho; obtain ⟨A3, c3, rfl⟩ := ho.form; have HO3 := Lib.hid (And.intro ho (HO2.out.2.trans (Below.trans ((Below.refl _ _).alloc hz2 _) hbl))); clear ho hbl hloc hg))
    go_ret
    exact ⟨A3, c3, rfl, HO3.out.1.sf.2, HO3.out.2⟩
  · rw [hw]
    have hr := HR0.out
    rw [he] at hr
    have hes : ∀ e ∈ ([240 + n / 262144, 128 + n / 4096 % 64, 128 + n / 64 % 64, 128 + n % 64] : List Int), 0 ≤ e ∧ e ≤ 255 := by
      intro e hm
      simp only [List.mem_cons, List.mem_nil_iff, or_false] at hm
      omega
    have HR := Lib.hid (And.intro hr hes); clear hr hw he hes
    go_wp2_with (at_builtin; (refine app_list rfl _ _ 22 rfl (v := .slice A1 b.length c1) (u := .slice (some ⟨w2.heap.size, 0, none⟩) 4 4) (by rfl) (by rfl) (run_app_P u8Plain 22 _ w.heap.size 5 (.int .u8 0) 1 Try.underlying22 infoU8 rfl (by decide) _ b (([240 + n / 262144, 128 + n / 4096 % 64, 128 + n / 64 % 64, 128 + n % 64] : List Int).map byteOf) _ _ (HO2.out.1.alloc _) (litU8 w2 _ [240 + n / 262144, 128 + n / 4096 % 64, 128 + n / 64 % 64, 128 + n % 64] 4 rfl HR.out.2 (by simp)) (by simp; omega) (by simp; unfold maxLen; omega) (by simp; omega)) ?_; rintro v3 w3 ⟨ho, hbl, hloc, hg⟩; rw [← HR.out.1] at ho; obtain ⟨A3, c3, rfl⟩ := ho.form; have HO3 := Lib.hid (And.intro ho (HO2.out.2.trans (Below.trans ((Below.refl _ _).alloc hz2 _) hbl))); clear ho hbl hloc hg))
    go_ret
    exact ⟨A3, c3, rfl, HO3.out.1.sf.2, HO3.out.2⟩
end Go.Proofs.Ytblcmajhdndmfaa
