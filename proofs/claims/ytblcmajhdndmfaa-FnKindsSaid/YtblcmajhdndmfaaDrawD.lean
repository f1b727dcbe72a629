/- Contracts: bytes and a cursor of the reference's draws; what a drawn tree is. -/
import Derived.Test.YtblcmajhdndmfaaDrawC
import Derived.Test.YtblcmajhdndmfaaDraw6
import Derived.Test.YtblcmajhdndmfaaPre
namespace Go.Proofs.Ytblcmajhdndmfaa
open Go.RowKit
set_option linter.unusedVariables false
set_option maxRecDepth 100000

theorem OwnC.ce {α : Type} [Rep α] {w w' : World} {g base : Nat} {t : TypeId} {v : Value} {l : List α} {F : List Nat} (h : OwnC w base t v l F) (hF : ∀ b, b ∈ F → base ≤ b ∧ b < w.heap.size) (hc : Ce g w w') (hg : g < base) : OwnC w' base t v l F := by
  have hlt := h.own_lt
  obtain ⟨xs, h3, h4, h5⟩ := h
  have hk : ∀ b, base ≤ b → b < w.heap.size → w'.heap[b]? = w.heap[b]? := fun b h1 h2 => hc.heap (by omega) h2
  refine ⟨xs, ?_, h4.keep fun b hb => hk b (hF b hb).1 (hF b hb).2, h5⟩
  obtain ⟨h6, h7⟩ := h3
  refine ⟨h6, ?_⟩
  rcases h7 with h7 | ⟨g, cap, cur, rfl, hb, hh, h8, h9, h10, h11⟩
  · exact .inl h7
  · exact .inr ⟨g, cap, cur, rfl, hb, (hk g hb (hlt g rfl).2).trans hh, h8, h9, h10, h11⟩
/-- One element behind a row that lay there before a draw; the element was drawn. -/
theorem run_app1_C {α : Type} [Rep α] {P : Program} {W : World} (t ty : TypeId) (base g : Nat) (e : TypeId) (z : Value) (bytes : Nat) (ht : P.underlying t = some (.slice e))
    (hinfo : (P.info? e).map (fun i => (i.zero, i.size, i.bytes)) = some (some z, Rep.wd α, bytes)) (hzs : z.cells.size = Rep.wd α) (hsz : 0 < Rep.wd α)
    (v : Value) (l : List α) (el : α) (cs : List Value) (w0 : World) (ad : Addr) (c : Nat) (hown : OwnF w0 base e v l) (hce : Ce g w0 W) (hg : g < base)
    (hr : RF w0.heap.size W el cs) (hcells : ∀ j u, cs[j]? = some u → W.cell? (ad.add j) = some u)
    (hbytes : (l.length + 1) * bytes ≤ 140737488355328) (h63 : l.length + 1 ≤ maxLen) (hbase : base ≤ w0.heap.size) :
    ∃ v' w', (Builtin.append_ #[t, t] ty #[v, .slice (some ad) 1 c]).run P W = .ok v' w' ∧ AppF W base e v (l ++ [el]) v' w' := by
  obtain ⟨F', hr1, hr2⟩ := hr
  have hel : Elems W [el] F' cs := Elems.single hr1
  obtain ⟨i, hi, hz, hsize, hby⟩ := info_parts hinfo
  obtain ⟨F, hC, hFr⟩ := hown
  have hlt : ∀ b, b ∈ F → b < w0.heap.size := fun b hm => (hFr.2 b hm).2.lt
  have hgl := hC.own_lt
  have hFk : ∀ b, b ∈ F → base ≤ b ∧ b < w0.heap.size := fun b hm => ⟨(hFr.2 b hm).1, hlt b hm⟩
  obtain ⟨xs, h1, h2, h3⟩ := hC.ce hFk hce hg
  have hFr' : Fresh base W F := hFr.keep fun b hb => hce.heap (by have := (hFk b hb).1; omega) (hFk b hb).2
  have hbW : base ≤ W.heap.size := Nat.le_trans hbase hce.size
  have hF : ∀ g, v.ownBlock = some g → g ∉ F' := fun g hg hm => by have := (hr2.2 g hm).1; have := (hgl g hg).2; omega
  have hltW : ∀ b, b ∈ F ++ F' → b < W.heap.size := fun b hm => by
    rcases List.mem_append.1 hm with hm | hm
    · exact (hFr'.2 b hm).2.lt
    · exact (hr2.2 b hm).2.lt
  obtain ⟨v', w', hrun, h4, h5, _, h6⟩ := run_append_own_at (P := P) W base t ty e i z (Rep.wd α) bytes ht hi hz hsize hby hzs hsz v l.length xs h1 ad 1 c cs hel.len hcells hel.one h63 hbytes hbW
  refine ⟨v', w', hrun, ⟨F ++ F', OwnC.grown h2 h3 hel hF hltW h4 h5 h6, ?_, fun b hm => ?_⟩, grown_below h5 hbW fun k hk => (hgl k hk).1, h6, h5⟩
  · rw [List.nodup_append]
    exact ⟨hFr.1, hr2.1, fun x hx y hy e => by have := hlt x hx; have := (hr2.2 y hy).1; omega⟩
  · have hne : v.ownBlock ≠ some b := fun e => by
      rcases List.mem_append.1 hm with hm | hm
      · exact h3 b e hm
      · exact hF b e hm
    have hk := h5.block b (hltW b hm) (fun e => hne e.symm)
    rcases List.mem_append.1 hm with hm | hm
    · exact ⟨(hFr.2 b hm).1, (hFr'.2 b hm).2.keep hk⟩
    · exact ⟨by have := (hr2.2 b hm).1; omega, (hr2.2 b hm).2.keep hk⟩

def RetBy (g : Nat) (code : List UInt8) (n : Nat) (w : World) (e : Ending) (w' : World) : Prop :=
  ∃ (l : List UInt8) (A : Option Addr) (c : Nat), e = .returned (.slice A l.length c) ∧ l.length = n ∧ SF w.heap.size w' l A c ∧ Ce g w w' ∧ Cur w' g code

set_option maxHeartbeats 1000000 in
theorem l1Bytes_any (g : Nat) (code : List UInt8) (n : Nat) (w : World) (hn : n ≤ 1000) (hc : Cur w g code) :
    Calls Try.prog 139 #[.pointer (some ⟨g, 0, none⟩), .int .i64 n] w (RetBy g code n w) := by
  have hz1 := hc.lt
  have HC := Lib.hid (hc.below (bAl (bRf w) (.cells #[] 5))); clear hc
  go_enter Try.func139, Try.ntmps139
  go_wp2_with fail
  go_loopg [5, 6] n (fun gk u5 i wr => ∃ (k : Nat) (bs : List UInt8), i = .int .i64 k ∧ gk = n - k ∧ k ≤ n ∧ bs.length = k ∧ OwnF wr w.heap.size 5 u5 bs ∧ Ce g w wr ∧ Cur wr g code)
  case atStart => exact ⟨0, [], rfl, rfl, by omega, rfl, OwnF.lit0' _ _ _ _ rfl (Nat.le_refl _), Ce.of (bAl (bRf w) _) (by omega), HC.out⟩
  case round =>
    obtain ⟨k, bs, rfl, rfl, hk, hbs, hown, hce, hcur⟩ := hrel
    have HS := Lib.hid (And.intro hown (And.intro hce hcur))
    have hzr := hce.size
    have hgr := hcur.lt
    clear hown hce hcur
    by_cases hlt : k < n
    · have hi1 : (k : Int) < n := by omega
      go_wp2_with fail
      refine (l1Byte_any g code wr HS.out.2.2).mono ?_
      rintro e w3 ⟨x, rfl, hx0, hx1, hce, hcur⟩
      have HO3 := Lib.hid (HS.out.1.ce hce hz1)
      have hz3 : w.heap.size ≤ w3.heap.size := Nat.le_trans hzr hce.size
      have HS3 := Lib.hid (And.intro (HS.out.2.1.trans hce) hcur); clear hce hcur
      have hes : ∀ e ∈ ([x] : List Int), 0 ≤ e ∧ e ≤ 255 := by
        intro e hm
        simp only [List.mem_cons, List.mem_nil_iff, or_false] at hm
        omega
      have HE := Lib.hid hes; clear hes
      go_wp2_with (at_builtin; (refine app_list rfl _ _ 22 rfl (v := u5) (u := .slice (some ⟨w3.heap.size, 0, none⟩) 1 1) (by rfl) (by rfl) (run_app_P u8Plain 22 _ w.heap.size 5 (.int .u8 0) 1 Try.underlying22 infoU8 rfl (by decide) u5 bs (([x] : List Int).map byteOf) _ _ (HO3.out.alloc _) (litU8 w3 _ [x] 1 rfl HE.out (by simp)) (by simp; omega) (by simp; unfold maxLen; omega) (by simp; omega)) ?_; rintro r5 w5 ⟨ho5, hbl5, hlc5, hg5⟩; have HO5 := Lib.hid (And.intro ho5 hbl5); clear ho5 hbl5 hlc5 hg5))
      go_roundg (n - (k + 1))
      case measure => omega
      case rel =>
        have h5 := Ce.andthen (n := w.heap.size) HS3.out (Below.trans ((Below.refl _ _).alloc hz3 _) HO5.out.2) (Nat.le_refl _) hz1
        refine ⟨k + 1, bs ++ ([x] : List Int).map byteOf, by go_num, rfl, by omega, by simp; omega, HO5.out.1, h5.1, h5.2⟩
    · have e : k = n := by omega
      subst e
      obtain ⟨A5, c5, rfl⟩ := HS.out.1.form
      have hd : ¬ ((k : Int) < k) := by omega
      go_wp2_with fail
      go_ret
      exact ⟨bs, A5, c5, by rw [hbs]; rfl, hbs, HS.out.1.sf.2, HS.out.2.1, HS.out.2.2⟩

theorem and30_range (y : Int) : 0 ≤ bits .and .i64 y 1073741823 ∧ bits .and .i64 y 1073741823 ≤ 1073741823 := by
  have h2 : (BitVec.ofInt 64 ((1073741823 : Nat) : Int)).toNat = 1073741823 := by
    rw [BitVec.ofInt_natCast, BitVec.toNat_ofNat]
  have h3 : bits .and .i64 y ((1073741823 : Nat) : Int) = IntKind.i64.wrap ((BitVec.ofInt 64 y &&& BitVec.ofInt 64 ((1073741823 : Nat) : Int)).toNat : Int) := rfl
  have h4 : ∀ T : Nat, T &&& 1073741823 = T % 1073741824 := fun T => Nat.and_two_pow_sub_one_eq_mod T 30
  show 0 ≤ bits .and .i64 y ((1073741823 : Nat) : Int) ∧ bits .and .i64 y ((1073741823 : Nat) : Int) ≤ 1073741823
  rw [h3, BitVec.toNat_and, h2, h4, IntKind.wrap_i64]
  have h5 : (BitVec.ofInt 64 y).toNat % 1073741824 < 1073741824 := Nat.mod_lt _ (by decide)
  generalize (BitVec.ofInt 64 y).toNat % 1073741824 = T at h5 ⊢
  omega

def RetCu (code : List UInt8) (w : World) (e : Ending) (w' : World) : Prop :=
  ∃ g : Nat, e = .returned (.pointer (some ⟨g, 0, none⟩)) ∧ w.heap.size ≤ g ∧ Below w.heap.size w w' ∧ Cur w' g code
set_option maxHeartbeats 1000000 in
theorem l1New_any (code : List UInt8) (A : Option Addr) (c : Nat) (w : World) (hn : code.length ≤ 1048576) (hs : SA w code A c) :
    Calls Try.prog 85 #[.slice A code.length c] w (RetCu code w) := by
  have E := Lib.hid hs; clear hs
  go_enter Try.func85, Try.ntmps85
  go_wp2_with fail
  go_loopg [3, 4] code.length (fun gk u3 i wr => ∃ (k : Nat) (h : Int), u3 = .int .i64 h ∧ i = .int .i64 k ∧ gk = code.length - k ∧ k ≤ code.length ∧ 0 ≤ h ∧ h ≤ 1073741823 ∧ Below w.heap.size w wr)
  case atStart => exact ⟨0, 161919 + code.length, by go_num, rfl, rfl, by omega, by omega, by omega, bRf w⟩
  case round =>
    obtain ⟨k, h, rfl, rfl, rfl, hk, hh0, hh1, hbel⟩ := hrel
    by_cases hlt : k < code.length
    · have hi1 : (k : Int) < code.length := by omega
      by_cases h4 : k < 4000
      · have hi2 : (k : Int) < 4000 := by omega
        obtain ⟨b, off, rfl, hb, kk⟩ := (E.out.below hbel).byte_at hlt
        have hx := and30_range (h * 137 + (code[k].toNat : Int) + 11)
        have hu := code[k].toNat_lt
        have HB := Lib.hid hbel; clear hbel
        go_wp2_with fail
        go_roundg (code.length - (k + 1))
        case measure => omega
        case rel => exact ⟨k + 1, _, rfl, by go_num, rfl, by omega, hx.1, hx.2, by first | exact HB.out | exact HB.out.drewN _ | exact HB.out.drew⟩
      · have hi2 : ¬ ((k : Int) < 4000) := by omega
        have HB := Lib.hid hbel
        have hz := hbel.size
        clear hbel
        go_wp2_with fail
        go_ret
        refine ⟨wr.heap.size, rfl, hz, bAl HB.out _, A, c, 0, h, Blk.new _ _ _, by omega, ⟨by omega, by omega⟩, hn, ?_⟩
        obtain ⟨F, h1, h2⟩ := E.out.below HB.out
        exact ⟨F, h1.keep fun b hb => Below.heap_alloc _ _ b (h2 b hb), h2⟩
    · have hi1 : ¬ ((k : Int) < code.length) := by omega
      have HB := Lib.hid hbel
      have hz := hbel.size
      clear hbel
      go_wp2_with fail
      go_ret
      refine ⟨wr.heap.size, rfl, hz, bAl HB.out _, A, c, 0, h, Blk.new _ _ _, by omega, ⟨by omega, by omega⟩, hn, ?_⟩
      obtain ⟨F, h1, h2⟩ := E.out.below HB.out
      exact ⟨F, h1.keep fun b hb => Below.heap_alloc _ _ b (h2 b hb), h2⟩

/-- All kinds of a tree's values are kinds. -/
def KOk (v : GVal) : Prop := ∀ u, u ∈ preG v → 1 ≤ u.kind ∧ u.kind ≤ 11
def KOkL (l : List GVal) : Prop := ∀ u, u ∈ preL l → 1 ≤ u.kind ∧ u.kind ≤ 11
theorem KOk.of {v : GVal} (h : 1 ≤ v.kind ∧ v.kind ≤ 11) (hl : KOkL v.l) : KOk v := by
  intro u hu
  rw [preG_eq] at hu
  rcases List.mem_cons.1 hu with rfl | hu
  · exact h
  · exact hl u hu
theorem KOkL.nil : KOkL [] := by intro u hu; simp [preL] at hu
theorem KOkL.snoc {l : List GVal} {a : GVal} (h : KOkL l) (ha : KOk a) : KOkL (l ++ [a]) := by
  intro u hu
  rw [preL_snoc] at hu
  rcases List.mem_append.1 hu with hu | hu
  · exact h u hu
  · exact ha u hu
theorem bulkVals_snoc (l : List GVal) (a : GVal) : bulkVals (l ++ [a]) = bulkVals l + (1 + bulkVal a) := by rw [bulkVals_eq, bulkVals_eq]; simp; omega
def RetV (g : Nat) (code : List UInt8) (B : Nat) (w : World) (e : Ending) (w' : World) : Prop :=
  ∃ (v : GVal) (A : Option Addr) (c : Nat), e = .returned (.agg #[.int .i64 v.kind, .int .i64 v.n, .int .i64 v.x, .string v.s, .slice A v.l.length c]) ∧ SF w.heap.size w' v.l A c ∧ VInt v ∧ bulkVal v ≤ B ∧ KOk v ∧ Ce g w w' ∧ Cur w' g code
theorem RetV.leaf {g : Nat} {code : List UInt8} {B : Nat} {w w' : World} {k n x : Int} {s : ByteArray} (hl : Leaf k n x s) (hB : 100 ≤ B) (h : Ce g w w' ∧ Cur w' g code) : RetV g code B w (.returned (valE k n x s)) w' := by
  obtain ⟨h1, h2, h3, h4, h5⟩ := hl
  refine ⟨⟨k, n, x, s, []⟩, none, 0, rfl, ⟨[], ⟨by simp, by simp, .inl ⟨rfl, rfl, fun _ => rfl⟩⟩, Fresh.nil _ _⟩, ⟨⟨by show _ ≤ k; omega, by show k ≤ _; omega⟩, h3, h4, by show s.size ≤ _; unfold maxLen; omega⟩, ?_, KOk.of ⟨h1, by show k ≤ 11; omega⟩ KOkL.nil, h.1, h.2⟩
  rw [bulkVal_eq, bulkVals_eq]; simp; omega
theorem numV_leaf {n x : Int} (hn : I64 n) (hx : I64 x) : ∃ k x', numV n x = valE k n x' .empty ∧ Leaf k n x' .empty := by
  unfold numV
  split
  · exact ⟨3, 0, rfl, by omega, by omega, hn, I64.zero, by simp⟩
  · exact ⟨6, x, rfl, by omega, by omega, hn, hx, by simp⟩
end Go.Proofs.Ytblcmajhdndmfaa
