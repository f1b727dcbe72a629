/- Contracts: runes, in the reference. -/
import Derived.Test.YtblcmajhdndmfaaPlace
import Derived.Test.YtblcmajhdndmfaaLaw1
import Derived.Test.YtblcmajhdndmfaaMark
import Derived.Test.YtblcmajhdndmfaaBytes
import Derived.Test.YtblcmajhdndmfaaApp
namespace Go.Proofs.Ytblcmajhdndmfaa
open Go.RowKit
set_option linter.unusedVariables false
set_option maxRecDepth 100000

theorem infoU8 : (Try.prog.info? 5).map (fun i => (i.zero, i.size, i.bytes)) = some (some (.int .u8 0), 1, 1) := by kernel_rfl
theorem u8Plain : ∀ (w : World) (F : List Nat) (a : UInt8) (cs : List Value), Rep.rp w F a cs → F = [] := fun _ _ _ _ h => h.1
theorem byteOf_in {x : Int} (h0 : 0 ≤ x) (h1 : x ≤ 255) : ((byteOf x).toNat : Int) = x := by rw [byteOf_val]; omega
theorem elemsU8 (w : World) : ∀ (es : List Int), (∀ e ∈ es, 0 ≤ e ∧ e ≤ 255) → Elems w (es.map byteOf) [] (es.map (Value.int .u8))
  | [], _ => ⟨rfl, rfl⟩
  | e :: es, h => ⟨[], [], [.int .u8 e], es.map (Value.int .u8), rfl, rfl, ⟨rfl, by rw [byteOf_in (h e (List.mem_cons_self ..)).1 (h e (List.mem_cons_self ..)).2]⟩, elemsU8 w es fun x hx => h x (List.mem_cons_of_mem _ hx)⟩
theorem litU8 (W : World) (t : TypeId) (es : List Int) (n : Nat) (hn : n = es.length) (h : ∀ e ∈ es, 0 ≤ e ∧ e ≤ 255) (hm : es.length ≤ 1000) : SA (W.alloc (.cells (es.map (Value.int .u8)).toArray t)) (es.map byteOf) (some ⟨W.heap.size, 0, none⟩) n := by
  subst hn
  refine ⟨[W.heap.size], ⟨by simp, by unfold maxLen; omega, .inr ⟨_, _, [], _, rfl, rfl, elemsU8 _ es h, fun j v hj => ?_⟩⟩, fun b hb => by simp at hb; subst hb; simp⟩
  have := (Blk.new W t (es.map (Value.int .u8)).toArray).cell j
  rw [Nat.zero_add, this]
  simpa using hj

def runeOk (n : Int) : Bool := decide (0 ≤ n ∧ n ≤ 1114111) && !decide (55296 ≤ n ∧ n ≤ 57343)
def wideOf (n : Int) : Int := if runeOk n then (if n < 128 then 1 else if n < 2048 then 2 else if n < 65536 then 3 else 4) else 0
def encI (n : Int) : List Int :=
  if wideOf n = 1 then [n] else if wideOf n = 2 then [192 + n / 64, 128 + n % 64] else if wideOf n = 3 then [224 + n / 4096, 128 + n / 64 % 64, 128 + n % 64] else if wideOf n = 4 then [240 + n / 262144, 128 + n / 4096 % 64, 128 + n / 64 % 64, 128 + n % 64] else []
def encR (n : Int) : List UInt8 := (encI n).map byteOf
theorem encR_len (n : Int) : (encR n).length ≤ 4 := by
  unfold encR encI
  rw [List.length_map]
  repeat' split
  all_goals simp
theorem runeOk_iff {n : Int} : runeOk n = true ↔ (0 ≤ n ∧ n ≤ 1114111) ∧ ¬ (55296 ≤ n ∧ n ≤ 57343) := by unfold runeOk; simp; omega

theorem specRuneOk_any (n : Int) (w : World) : Calls Try.prog 165 #[.int .i64 n] w (Ret w (.bool (runeOk n))) := by
  by_cases h1 : 0 ≤ n ∧ n ≤ 1114111
  · have hd1 : decide (0 ≤ n ∧ n ≤ 1114111) = true := decide_eq_true h1
    obtain ⟨b, hb⟩ : ∃ b, b = decide (55296 ≤ n ∧ n ≤ 57343) := ⟨_, rfl⟩
    have hR : runeOk n = !b := by unfold runeOk; rw [hd1, hb]; rfl
    rw [hR]
    have HH := Lib.hid (And.intro hd1 hb); clear hd1 hb hR
    go_enter Try.func165, Try.ntmps165
    go_wp2_with fail
    refine (l1In_any _ _ _ _).mono ?_
    rintro e w1 ⟨rfl, hb1⟩
    rw [HH.out.1]
    have B1 := Lib.hid hb1; clear hb1
    go_wp2_with fail
    refine (l1In_any _ _ _ _).mono ?_
    rintro e w2 ⟨rfl, hb2⟩
    rw [← HH.out.2]
    have B2 := Lib.hid (bTr B1.out hb2); clear hb2
    go_wp2_with fail
    go_ret
    exact ⟨rfl, B2.out⟩
  · have hd1 : decide (0 ≤ n ∧ n ≤ 1114111) = false := decide_eq_false h1
    have hR : runeOk n = false := by unfold runeOk; rw [hd1]; rfl
    rw [hR]
    have HH := Lib.hid hd1; clear hd1 hR
    go_enter Try.func165, Try.ntmps165
    go_wp2_with fail
    refine (l1In_any _ _ _ _).mono ?_
    rintro e w1 ⟨rfl, hb1⟩
    rw [HH.out]
    have B1 := Lib.hid hb1; clear hb1
    go_wp2_with fail
    go_ret
    exact ⟨rfl, B1.out⟩

theorem specWideOf_any (n : Int) (w : World) : Calls Try.prog 164 #[.int .i64 n] w (Ret w (.int .i64 (wideOf n))) := by
  obtain ⟨r, hr⟩ : ∃ r, r = wideOf n := ⟨_, rfl⟩
  rw [← hr]
  unfold wideOf at hr
  cases hk : runeOk n with
  | false =>
    rw [hk] at hr
    have hr2 : r = 0 := by rw [hr]; rfl
    have HH := Lib.hid (And.intro hk hr2); clear hk hr hr2
    go_enter Try.func164, Try.ntmps164
    go_wp2_with fail
    refine (specRuneOk_any _ _).mono ?_
    rintro e w1 ⟨rfl, hb1⟩
    rw [HH.out.1]
    have B1 := Lib.hid hb1; clear hb1
    go_wp2_with fail
    go_ret
    exact ⟨by rw [HH.out.2]; rfl, B1.out⟩
  | true =>
    rw [hk, if_pos rfl] at hr
    by_cases h1 : n < 128
    · have hr2 : r = 1 := by rw [hr, if_pos h1]
      have HH := Lib.hid (And.intro hk hr2); clear hk hr hr2
      go_enter Try.func164, Try.ntmps164
      go_wp2_with fail
      refine (specRuneOk_any _ _).mono ?_
      rintro e w1 ⟨rfl, hb1⟩
      rw [HH.out.1]
      have B1 := Lib.hid hb1; clear hb1
      go_wp2_with fail
      go_ret
      exact ⟨by rw [HH.out.2]; rfl, B1.out⟩
    · rw [if_neg h1] at hr
      by_cases h2 : n < 2048
      · have hr2 : r = 2 := by rw [hr, if_pos h2]
        have HH := Lib.hid (And.intro hk hr2); clear hk hr hr2
        go_enter Try.func164, Try.ntmps164
        go_wp2_with fail
        refine (specRuneOk_any _ _).mono ?_
        rintro e w1 ⟨rfl, hb1⟩
        rw [HH.out.1]
        have B1 := Lib.hid hb1; clear hb1
        go_wp2_with fail
        go_ret
        exact ⟨by rw [HH.out.2]; rfl, B1.out⟩
      · rw [if_neg h2] at hr
        by_cases h3 : n < 65536
        · have hr2 : r = 3 := by rw [hr, if_pos h3]
          have HH := Lib.hid (And.intro hk hr2); clear hk hr hr2
          go_enter Try.func164, Try.ntmps164
          go_wp2_with fail
          refine (specRuneOk_any _ _).mono ?_
          rintro e w1 ⟨rfl, hb1⟩
          rw [HH.out.1]
          have B1 := Lib.hid hb1; clear hb1
          go_wp2_with fail
          go_ret
          exact ⟨by rw [HH.out.2]; rfl, B1.out⟩
        · have hr2 : r = 4 := by rw [hr, if_neg h3]
          have HH := Lib.hid (And.intro hk hr2); clear hk hr hr2
          go_enter Try.func164, Try.ntmps164
          go_wp2_with fail
          refine (specRuneOk_any _ _).mono ?_
          rintro e w1 ⟨rfl, hb1⟩
          rw [HH.out.1]
          have B1 := Lib.hid hb1; clear hb1
          go_wp2_with fail
          go_ret
          exact ⟨by rw [HH.out.2]; rfl, B1.out⟩
end Go.Proofs.Ytblcmajhdndmfaa
