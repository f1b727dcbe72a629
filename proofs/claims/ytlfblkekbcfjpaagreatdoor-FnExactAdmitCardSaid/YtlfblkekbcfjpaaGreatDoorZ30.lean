/- Part of a proof: contracts and plain laws. -/
import Derived.Test.YtlfblkekbcfjpaaGreatDoorZ18
import Derived.KernelRfl
import Derived.Test.YtlfblkekbcfjpaaGreatDoorZ12
import Derived.ProofKit
import Derived.OpenShut
import Derived.JoinedCond
import Derived.Deep.Slices
import Derived.Deep.Fields
import Derived.Test.YtlfblkekbcfjpaaGreatDoorRows
import Derived.Stop.Joined
import Derived.SevenTiedAt
set_option linter.unusedVariables false
set_option linter.unusedSimpArgs false
namespace Go.Proofs.YtlfblkekbcfjpaaGreatDoor
open Go.Lib
set_option maxRecDepth 100000
def lowV (x : Nat) : Option Nat := if 48 ≤ x ∧ x ≤ 57 then some (x - 48) else if 97 ≤ x ∧ x ≤ 102 then some (x - 87) else none
def lowN : List UInt8 → Nat → Option Nat
 | [], n => some n
 | x :: t, n => match lowV x.toNat with | some d => lowN t (16 * n + d) | none => none
def hexDs : List UInt8 := [48, 49, 50, 51, 52, 53, 54, 55, 56, 57, 97, 98, 99, 100, 101, 102]
theorem ix_hexF : ∀ i : Fin 256, indexByte hexDs (UInt8.ofNat i.val) = match lowV i.val with | some d => (d : Int) | none => -1 := by decide
theorem ix_hex (x : UInt8) : indexByte hexDs x = match lowV x.toNat with | some d => (d : Int) | none => -1 := by
 have := ix_hexF ⟨x.toNat, x.toNat_lt⟩
 simpa using this
theorem lowN_none : ∀ (t : List UInt8) (n : Nat), (∃ y ∈ t, lowV y.toNat = none) → lowN t n = none
 | [], n, h => by obtain ⟨y, hy, _⟩ := h; cases hy
 | x :: t, n, h => by
  unfold lowN
  cases hx : lowV x.toNat with
  | none => rfl
  | some d =>
   obtain ⟨y, hy, h2⟩ := h
   rcases List.mem_cons.1 hy with rfl | hy
   ·rw [hx] at h2; cases h2
   ·exact lowN_none t _ ⟨y, hy, h2⟩
theorem hexN_none : ∀ (t : List UInt8) (n : Nat), (∃ y ∈ t, hexV y.toNat = none) → hexN t n = none
 | [], n, h => by obtain ⟨y, hy, _⟩ := h; cases hy
 | x :: t, n, h => by
  unfold hexN
  cases hx : hexV x.toNat with
  | none => rfl
  | some d =>
   obtain ⟨y, hy, h2⟩ := h
   rcases List.mem_cons.1 hy with rfl | hy
   ·rw [hx] at h2; cases h2
   ·exact hexN_none t _ ⟨y, hy, h2⟩
theorem hexV_high {x : Nat} (h : 128 ≤ x) : hexV x = none := by
 unfold hexV; rw [if_neg (by omega), if_neg (by omega), if_neg (by omega)]
theorem lowV_high {x : Nat} (h : 103 ≤ x) : lowV x = none := by
 unfold lowV; rw [if_neg (by omega), if_neg (by omega)]
theorem lowF : ∀ i : Fin 128, lowV (lowerB (UInt8.ofNat i.val)).toNat = hexV i.val := by decide
theorem low_ascii : ∀ (t : List UInt8) (n : Nat), (∀ x ∈ t, x.toNat < 128) → lowN (t.map lowerB) n = hexN t n
 | [], n, _ => rfl
 | x :: t, n, h => by
  have h1 := lowF ⟨x.toNat, h x (List.mem_cons_self ..)⟩
  simp at h1
  show (match lowV (lowerB x).toNat with | some d => lowN (t.map lowerB) (16 * n + d) | none => none) = (match hexV x.toNat with | some d => hexN t (16 * n + d) | none => none)
  rw [h1]
  cases hexV x.toNat with
  | none => rfl
  | some d => exact low_ascii t _ fun y hy => h y (List.mem_cons_of_mem _ hy)
theorem lookupIdx_in (T : Array CaseRow) (r : Int) : ∀ (f lo hi i : Nat), lookupIdx T r f lo hi = some i → ((T.getD i (0, 0, 0, 0, 0)).1 : Int) ≤ r ∧ r ≤ ((T.getD i (0, 0, 0, 0, 0)).2.1 : Int)
 | 0, lo, hi, i, h => by cases h
 | f + 1, lo, hi, i, h => by
  unfold lookupIdx at h
  split at h
  ·split at h
   ·cases h; assumption
   ·split at h
    ·exact lookupIdx_in T r f _ _ i h
    ·exact lookupIdx_in T r f _ _ i h
  ·cases h
def rowOk (x : CaseRow) : Bool := decide (x.2.1 < 128) || (if x.delta 1 > 1114111 then decide (103 ≤ x.1) else decide (103 ≤ (x.1 : Int) + x.delta 1))
theorem caseT_ok : caseT.all rowOk = true := by kernel_rfl
theorem lower_high {r : Int} (h : 128 ≤ r) : 103 ≤ toLowerU r := by
 unfold toLowerU
 rw [if_neg (by omega)]
 unfold toR lookupGo
 cases hi : lookupIdx caseA r (caseA.size + 1) 0 caseA.size with
 | none => simp only [Option.map_none]; omega
 | some i =>
  have h1 := lookupIdx_in _ _ _ _ _ _ hi
  simp only [Option.map_some]
  by_cases hlt : i < caseA.size
  ·have h2 : caseA.getD i (0, 0, 0, 0, 0) = caseA[i] := by simp -implicitDefEqProofs -dsimp [Array.getD, hlt]
   rw [h2] at h1 ⊢
   have h3 : rowOk caseA[i] = true := List.all_eq_true.1 caseT_ok _ (by have := Array.getElem_mem hlt; simp -implicitDefEqProofs -dsimp [caseA])
   generalize caseA[i] = x at *
   unfold rowOk at h3
   unfold convertR
   simp only [Bool.or_eq_true, decide_eq_true_eq] at h3
   rcases h3 with h3 | h3
   ·omega
   ·split
    ·rename_i hd; rw [if_pos hd] at h3; simp at h3; omega
    ·rename_i hd; rw [if_neg hd] at h3; simp at h3; omega
  ·have h2 : caseA.getD i (0, 0, 0, 0, 0) = (0, 0, 0, 0, 0) := by simp -implicitDefEqProofs -dsimp [Array.getD, hlt]
   rw [h2] at h1; simp at h1; omega
theorem enc_high {r : Int} (h : 103 ≤ r) : ∃ y ∈ encodeRune r, lowV y.toNat = none := by
 unfold encodeRune
 by_cases h1 : r ≤ 127
 ·rw [encodeRuneZ_one (by omega) h1]
  refine ⟨r.toNat.toUInt8, by simp, lowV_high ?_⟩
  simp -implicitDefEqProofs -dsimp; omega
 ·by_cases h2 : r ≤ 2047
  ·rw [encodeRuneZ_two (by omega) h2]
   refine ⟨_, List.mem_cons_self .., lowV_high ?_⟩
   simp -implicitDefEqProofs -dsimp; omega
  ·by_cases h3 : (2048 ≤ r ∧ r < 55296) ∨ (57343 < r ∧ r ≤ 65535)
   ·rw [encodeRuneZ_three h3]
    refine ⟨_, List.mem_cons_self .., lowV_high ?_⟩
    simp -implicitDefEqProofs -dsimp; omega
   ·by_cases h4 : 65536 ≤ r ∧ r ≤ 1114111
    ·rw [encodeRuneZ_four h4.1 h4.2]
     refine ⟨_, List.mem_cons_self .., lowV_high ?_⟩
     simp -implicitDefEqProofs -dsimp; omega
    ·rw [encodeRuneZ_bad (by omega)]
     exact ⟨_, List.mem_cons_self .., by decide⟩
theorem decodeN_high (n b0 b1 b2 b3 : Nat) (h : 128 ≤ b0) : 128 ≤ (decodeN n b0 b1 b2 b3).1 := by
 unfold decodeN
 repeat' split
 all_goals first | omega | simp -implicitDefEqProofs -dsimp
 all_goals omega
theorem map_high : ∀ (n : Nat) (t : List UInt8), t.length ≤ n → (∃ x ∈ t, 128 ≤ x.toNat) → ∃ y ∈ mapGoD toLowerU n t, lowV y.toNat = none
 | 0, t, hn, h => by obtain ⟨x, hx, _⟩ := h; cases t <;> simp at hn hx
 | n + 1, [], hn, h => by obtain ⟨x, hx, _⟩ := h; cases hx
 | n + 1, b :: t, hn, h => by
  unfold mapGoD
  rw [if_neg (by simp -implicitDefEqProofs -dsimp)]
  have hdec : decodeL (b :: t) = decodeN (b :: t).length (byN (b :: t) 0) (byN (b :: t) 1) (byN (b :: t) 2) (byN (b :: t) 3) := by
   rw [decodeL_N]; rfl
  by_cases hb : b.toNat < 128
  ·have h1 : decodeL (b :: t) = (b.toNat, 1) := by
    rw [hdec]; unfold decodeN; rw [if_pos (by exact hb)]; rfl
   rw [h1]
   have h2 : ∃ x ∈ t, 128 ≤ x.toNat := by
    obtain ⟨x, hx, h3⟩ := h
    rcases List.mem_cons.1 hx with rfl | hx
    ·omega
    ·exact ⟨x, hx, h3⟩
   obtain ⟨y, hy, h4⟩ := map_high n t (by simp at hn; omega) h2
   exact ⟨y, List.mem_append_right _ hy, h4⟩
  ·have h1 : 128 ≤ (decodeL (b :: t)).1 := by
    rw [hdec]; exact decodeN_high _ _ _ _ _ (by show 128 ≤ b.toNat; omega)
   have h2 := lower_high (r := ((decodeL (b :: t)).1 : Int)) (by omega)
   rw [if_pos (by omega)]
   obtain ⟨y, hy, h4⟩ := enc_high h2
   exact ⟨y, List.mem_append_left _ hy, h4⟩
theorem lowN_lower (t : List UInt8) (n : Nat) : lowN (toLowerD t) n = hexN t n := by
 by_cases h : ∀ x ∈ t, x.toNat < 128
 ·rw [toLowerD_ascii t h]
  exact low_ascii t n h
 ·have h2 : ∃ x ∈ t, 128 ≤ x.toNat := by
   apply Classical.byContradiction; intro h3
   exact h fun x hx => by
    rcases Nat.lt_or_ge x.toNat 128 with h4 | h4
    ·exact h4
    ·exact absurd ⟨x, hx, h4⟩ h3
  obtain ⟨x, hx, h3⟩ := h2
  rw [hexN_none _ _ ⟨x, hx, hexV_high h3⟩]
  exact lowN_none _ _ (map_high _ t (Nat.le_refl _) ⟨x, hx, h3⟩)
end Go.Proofs.YtlfblkekbcfjpaaGreatDoor
namespace Go.Proofs.YtlfblkekbcfjpaaGreatDoor
open Go.ChangeShapes Go.WideShapes Go.ChangeAt Go.RowKit
set_option maxRecDepth 100000
section
variable {H : Type} {enc : TypeId × Value → H} {P : Program}
theorem trodAll_stays (hl : laidOutB P = true) {W W' : World} (hb : Below W.heap.size W W') {sp : Nat → Bool} : ∀ {ts : List TypeId} {vs : List Value} {ds : List (DataW H)} {ps : List MemPlace},
  (∀ t, t ∈ ts → P.readableRec t = true ∧ t < P.types.size) → DataW.TrodAll enc P W 0 (fun _ => true) true ts vs ds ps → (∀ p ∈ ps, p.block < W.heap.size) → (∀ p ∈ ps, sp p.block = true) → DataW.TrodAll enc P W' 0 sp true ts vs ds ps
 | [], [], [], _, _, h, _, _ => h
 | [], _ :: _, _, _, _, h, _, _ => h.elim
 | [], [], _ :: _, _, _, h, _, _ => h.elim
 | _ :: _, [], _, _, _, h, _, _ => h.elim
 | _ :: _, _ :: _, [], _, _, h, _, _ => h.elim
 | t :: ts, v :: vs, d :: ds, ps, hr, h, hlt, hsp => by
  obtain ⟨p, q, h1, h2, rfl⟩ := h
  refine ⟨p, q, WideElems.Trod_stays hl (hr t (List.mem_cons_self ..)).1 (hr t (List.mem_cons_self ..)).2 h1 (fun x hx => hb.same (hlt x (List.mem_append_left _ hx))) (fun x hx => hsp x (List.mem_append_left _ hx)), ?_, rfl⟩
  exact trodAll_stays hl hb (fun t ht => hr t (List.mem_cons_of_mem _ ht)) h2 (fun x hx => hlt x (List.mem_append_right _ hx)) (fun x hx => hsp x (List.mem_append_right _ hx))
theorem law_post {f : Func} {s : ChangeSpec} {tb : TypeId} {W W' : World} {args : Array Value} {ds : List (DataW H)} {before : List MemPlace} (hvars : s.vars = []) (hrt : f.resultTypes = #[tb]) (htb : P.underlying tb = some .bool)
  (hl : laidOutB P = true) (hr : f.params.toList.all (fun t => P.readableRec t && decide (t < P.types.size)) = true) (hs : s.fn H ds = { results := [.lit (.bool true)], args := ds })
  (hW : DataW.Whole enc P f.params.toList s.vars false W args.toList ds [] before) (hb : Below W.heap.size W W') : s.post enc P f false true false false W args (.bool true) W' := by
 have hr' : ∀ t, t ∈ f.params.toList → P.readableRec t = true ∧ t < P.types.size := fun t ht => by
  have := List.all_eq_true.1 hr t ht
  simpa using this
 have hlt : ∀ p ∈ before, p.block < W.heap.size := fun p hp => hW.lt p hp
 have hW' := hW
 obtain ⟨p, q, hA, hV, rfl, hfz, hnd⟩ := hW
 rw [hvars] at hV
 have hq : q = [] := hV
 subst hq
 rw [List.append_nil] at hlt
 refine ⟨ds, [], p ++ [], [], p, [], hW', ?_, ?_, ?_, hb.frame _, fun h => by cases h⟩
 ·rw [List.append_nil, hs, hrt]
  exact trodAll_mk1 (shut_bool htb true)
 ·rw [List.append_nil, hs]
  exact trodAll_stays hl hb hr' hA hlt (fun x hx => by simpa using hlt x hx)
 ·rw [List.append_nil, hs, hvars]
  exact (rfl : ([] : List MemPlace) = [])
def Opens (P : Program) (t : TypeId) (α : Type) [Rep α] : Prop :=
 ∀ (H : Type) (enc : TypeId × Value → H) (w : World) (n : Nat) (cs : List Value) (x : DataW H × List MemPlace), DataW.trod enc P w 0 (fun _ => true) true n t cs = some x → ∃ a : α, RA w a cs
def OpensTo (P : Program) (n : Nat) (t : TypeId) (α : Type) [Rep α] : Prop :=
 ∀ (H : Type) (enc : TypeId × Value → H) (w : World) (m : Nat) (cs : List Value) (x : DataW H × List MemPlace), m ≤ n → DataW.trod enc P w 0 (fun _ => true) true m t cs = some x → ∃ a : α, RA w a cs
theorem Opens.to {t : TypeId} {α : Type} [Rep α] (h : Opens P t α) (n : Nat) : OpensTo P n t α := fun H enc w m cs x _ hx => h H enc w m cs x hx
theorem Opens.of {t : TypeId} {α : Type} [Rep α] (h : ∀ n, OpensTo P n t α) : Opens P t α := fun H enc w n cs x hx => h n H enc w n cs x (Nat.le_refl _) hx
theorem OpensTo.le {t : TypeId} {α : Type} [Rep α] {n m : Nat} (h : OpensTo P n t α) (hm : m ≤ n) : OpensTo P m t α := fun H enc w k cs x hk hx => h H enc w k cs x (by omega) hx
theorem i64_of {t : TypeId} (ht : P.underlying t = some (.int .i64)) {w : World} {n : Nat} {k : Int} {x : DataW H × List MemPlace} (h : DataW.trod enc P w 0 (fun _ => true) true n t (Value.cells (.int .i64 k)).toList = some x) : I64 k := by
 obtain ⟨k', e, _, hw⟩ := DataW.trod_int ht h
 simp only [Value.cells, List.cons.injEq, and_true, Value.int.injEq, true_and] at e
 subst e
 simp -implicitDefEqProofs -dsimp [Lit.wf, IntKind.min, IntKind.max, IntKind.signed, IntKind.bits] at hw
 exact hw
theorem opens_int {t : TypeId} (ht : P.underlying t = some (.int .i64)) : Opens P t Int := by
 intro H enc w n cs x h
 obtain ⟨k, rfl, _, hw⟩ := DataW.trod_int ht h
 have hI : I64 k := by
  simp -implicitDefEqProofs -dsimp [Lit.wf, IntKind.min, IntKind.max, IntKind.signed, IntKind.bits] at hw
  exact hw
 exact ⟨k, [], ⟨rfl, rfl, hI⟩, by simp⟩
theorem opens_byte {t : TypeId} (ht : P.underlying t = some (.int .u8)) : Opens P t UInt8 := by
 intro H enc w n cs x h
 obtain ⟨k, rfl, _, hw⟩ := DataW.trod_int ht h
 have hI : 0 ≤ k ∧ k ≤ 255 := by simpa [Lit.wf, IntKind.min, IntKind.max, IntKind.signed, IntKind.bits] using hw
 refine ⟨UInt8.ofNat k.toNat, [], ⟨rfl, ?_⟩, by simp⟩
 have e : ((UInt8.ofNat k.toNat).toNat : Int) = k := by
  rw [UInt8.toNat_ofNat_of_lt' (by simp -implicitDefEqProofs -dsimp [UInt8.size]; omega)]; omega
 rw [e]
theorem elems_of {α : Type} [Rep α] {w : World} {b off : Nat} (len : Nat) (h : ∀ i, i < len → ∃ (a : α) (cs : List Value), RA w a cs ∧ CellsAt w b (off + i * Rep.wd α) cs) :
  ∃ (l : List α) (F : List Nat) (xs : List Value), l.length = len ∧ Elems w l F xs ∧ CellsAt w b off xs ∧ ∀ b, b ∈ F → b < w.heap.size := by
 induction len with
 | zero => exact ⟨[], [], [], rfl, ⟨rfl, rfl⟩, fun j v hj => by simp at hj, by simp⟩
 | succ n ih =>
  obtain ⟨l, F, xs, hl, he, hc, hF⟩ := ih fun i hi => h i (by omega)
  obtain ⟨a, cs, ⟨Fa, hr, hFa⟩, hca⟩ := h n (by omega)
  refine ⟨l ++ [a], F ++ Fa, xs ++ cs, by simp -implicitDefEqProofs -dsimp [hl], he.snoc hr, fun j v hj => ?_, fun b hb => ?_⟩
  ·by_cases hlt : j < xs.length
   ·exact hc j v (by rwa [List.getElem?_append_left hlt] at hj)
   ·rw [List.getElem?_append_right (by omega)] at hj
    have := hca (j - xs.length) v hj
    have e : off + n * Rep.wd α + (j - xs.length) = off + j := by rw [he.len, hl] at hlt ⊢; omega
    rwa [e] at this
  ·rcases List.mem_append.1 hb with hb | hb
   ·exact hF b hb
   ·exact hFa b hb
theorem opensTo_slice {t e : TypeId} {α : Type} [Rep α] {n : Nat} (ht : P.underlying t = some (.slice e)) (hc : P.cellsOf e = Rep.wd α) (hwd : 0 < Rep.wd α) (he : OpensTo P n e α) : OpensTo P (n + 1) t (List α) := by
 intro H enc w m cs x hm h
 have hm' : m ≠ 0 := by rintro rfl; simp -implicitDefEqProofs -dsimp [DataW.trod] at h
 rcases DataW.trod_slice ht h with ⟨rfl, _⟩ | ⟨a, len, cap, elems, rest, k, hk, rfl, _, hb, hl, hcap, hlen, hel, _, _⟩
 ·exact ⟨[], [], ⟨none, 0, rfl, by simp, by simp -implicitDefEqProofs -dsimp [maxLen], .inl ⟨rfl, rfl, fun _ => rfl⟩⟩, by simp⟩
 ·by_cases h0 : len = 0
  ·subst h0
   exact ⟨[], [], ⟨some a, cap, rfl, by simp, hcap, .inl ⟨rfl, rfl, fun h => by cases h⟩⟩, by simp⟩
  ·have hcell : ∀ i, i < len → ∃ cs', w.cells? 0 (a.add (i * P.cellsOf e)) (P.cellsOf e) = some cs' ∧ ∃ y, DataW.trod enc P w 0 (fun _ => true) true k e cs' = some y := by
    intro i hi
    obtain ⟨cs', h1, h2⟩ := Option.bind_eq_some_iff.1 ((hel i hi).trans (List.getElem?_eq_getElem (by omega)))
    exact ⟨cs', h1, _, h2⟩
   obtain ⟨b, off, rfl⟩ : ∃ b off, a = ⟨b, off, none⟩ := by
    obtain ⟨cs', h1, _⟩ := hcell 0 (by omega)
    obtain ⟨_, hlen', hat⟩ := World.cells?_some h1
    have hv := hat 0 (by rw [hc]; exact hwd)
    rw [List.getElem?_eq_getElem (by rw [hlen', hc]; exact hwd)] at hv
    have hs : a.spot = none := by
     rw [Nat.zero_mul] at hv
     simp only [Addr.add, if_pos] at hv
     unfold World.cell? at hv
     split at hv
     ·split at hv
      ·cases hv
      ·rename_i hns
       cases hsp : a.spot with
       | none => rfl
       | some _ => rw [hsp] at hns; simp at hns
     ·cases hv
    exact ⟨a.block, a.off, by cases a; simp_all⟩
   have hadd : ∀ o i, (⟨b, o, none⟩ : Addr).add i = ⟨b, o + i, none⟩ := fun o i => by
    unfold Addr.add; split
    ·rename_i h; subst h; rfl
    ·rfl
   have hall : ∀ i, i < len → ∃ (a : α) (cs : List Value), RA w a cs ∧ CellsAt w b (off + i * Rep.wd α) cs := by
    intro i hi
    obtain ⟨cs', h1, y, h2⟩ := hcell i hi
    obtain ⟨a, ha⟩ := he H enc w k cs' y (by omega) h2
    refine ⟨a, cs', ha, fun j v hj => ?_⟩
    obtain ⟨_, hlen', hat⟩ := World.cells?_some h1
    have hj' : j < P.cellsOf e := by rw [← hlen']; exact (List.getElem?_eq_some_iff.1 hj).1
    have := (hat j hj').trans hj
    rw [hadd, hadd, hc] at this
    exact this
   obtain ⟨l, F, xs, hll, hel', hcs, hF⟩ := elems_of len hall
   refine ⟨l, b :: F, ⟨some ⟨b, off, none⟩, cap, by rw [hll], by omega, hcap, .inr ⟨b, off, F, xs, rfl, rfl, hel', hcs⟩⟩, fun b' hb' => ?_⟩
   rcases List.mem_cons.1 hb' with rfl | hb'
   ·obtain ⟨a0, cs0, hra, hc0⟩ := hall 0 (by omega)
    obtain ⟨Fa, hr, _⟩ := hra
    have hl0 : 0 < cs0.length := by rw [Rep.len hr]; exact hwd
    exact hc0.lt hl0
   ·exact hF b' hb'
theorem opens_slice {t e : TypeId} {α : Type} [Rep α] (ht : P.underlying t = some (.slice e)) (hc : P.cellsOf e = Rep.wd α) (hwd : 0 < Rep.wd α) (he : Opens P e α) : Opens P t (List α) :=
 Opens.of fun n => (opensTo_slice ht hc hwd (he.to n)).le (Nat.le_succ n)
theorem struct3 {t : TypeId} {f0 f1 f2 : Field} (ht : P.underlying t = some (.struct #[f0, f1, f2])) (hone : Deep.oneCellFields P #[f0, f1, f2] = true) (hC : P.cellsOf t = 3) {H : Type} {enc : TypeId × Value → H} {w : World} {m : Nat} {cs : List Value} {x : DataW H × List MemPlace}
  (h : DataW.trod enc P w 0 (fun _ => true) true m t cs = some x) : ∃ (c0 c1 c2 : Value) (y0 y1 y2 : DataW H × List MemPlace) (n : Nat), m = n + 1 ∧ cs = [c0, c1, c2] ∧ DataW.trod enc P w 0 (fun _ => true) true n f0.type [c0] = some y0 ∧ DataW.trod enc P w 0 (fun _ => true) true n f1.type [c1] = some y1 ∧ DataW.trod enc P w 0 (fun _ => true) true n f2.type [c2] = some y2 := by
 obtain ⟨xs, n, hm, _, hlen, hl, hf⟩ := DataW.trod_struct ht h
 rw [hC] at hlen
 match cs, hlen with
 | [c0, c1, c2], _ =>
  obtain ⟨o0, k0⟩ := Deep.hone_of hone 0 f0 rfl
  have g0 := hf 0 f0 rfl
  rw [o0, k0] at g0
  obtain ⟨o1, k1⟩ := Deep.hone_of hone 1 f1 rfl
  have g1 := hf 1 f1 rfl
  rw [o1, k1] at g1
  obtain ⟨o2, k2⟩ := Deep.hone_of hone 2 f2 rfl
  have g2 := hf 2 f2 rfl
  rw [o2, k2] at g2
  have e0 : xs[0]? = some (xs[0]'(by rw [hl]; exact (by decide : 0 < 3))) := List.getElem?_eq_getElem _
  have e1 : xs[1]? = some (xs[1]'(by rw [hl]; exact (by decide : 1 < 3))) := List.getElem?_eq_getElem _
  have e2 : xs[2]? = some (xs[2]'(by rw [hl]; exact (by decide : 2 < 3))) := List.getElem?_eq_getElem _
  exact ⟨c0, c1, c2, _, _, _, n, hm, rfl, g0.trans e0, g1.trans e1, g2.trans e2⟩
end
end Go.Proofs.YtlfblkekbcfjpaaGreatDoor
namespace Go.Proofs.YtlfblkekbcfjpaaGreatDoor
open Go.ChangeShapes Go.WideShapes Go.ChangeAt
set_option maxRecDepth 100000
theorem fnExactAdmit_closed : joinedFacts Tryz.prog 3 Tryz.f3 Rows.fnExactAdmitSpec Rows.fnExactAdmitRow = true := by kernel_rfl
end Go.Proofs.YtlfblkekbcfjpaaGreatDoor
namespace Go.Proofs.YtlfblkekbcfjpaaGreatDoor
open Go.ChangeShapes Go.WideShapes Go.ChangeAt
set_option maxRecDepth 100000
theorem fnExactAdmit_wf : Rows.fnExactAdmitRow.wfByText (OpenSpec.ofChange Rows.fnExactAdmitSpec) = true := by kernel_rfl
theorem fnExactAdmit_main : Tryz.prog.mainIs = some (true, "10db81089f1436b1db5a8aaae569049419fb7eb0ab5a93629fa22f588286d222".toList) := by kernel_rfl
theorem fnExactAdmit_looks : true = Tryz.prog.looks [] := by kernel_rfl
theorem fnExactAdmit_goes : false = Rows.fnExactAdmitRow.goesBy Tryz.prog := by kernel_rfl
end Go.Proofs.YtlfblkekbcfjpaaGreatDoor
