/- Part of a proof: contracts and plain laws. -/
import Derived.Test.YtlfblkekbcfjpaaGreatDoorZ10
import Derived.Test.YtlfblkekbcfjpaaGreatDoorZ12
set_option linter.unusedVariables false
set_option linter.unusedSimpArgs false
namespace Go.Proofs.YtlfblkekbcfjpaaGreatDoor
open Go Go.RowKit
abbrev I (n : Int) : V := .sc (.int .i64 n)
abbrev B (b : Bool) : V := .sc (.bool b)
abbrev S (s : ByteArray) : V := .sc (.string s)
abbrev Y (l : List UInt8) : V := .sl (l.map bv)
mutual
def vV : GVal → V
 | ⟨k, n, x, s, l⟩ => .ag [I k, I n, I x, S s, .sl (vVs l)]
def vVs : List GVal → List V
 | [] => []
 | a :: l => vV a :: vVs l
end
@[simp] theorem vVs_map : ∀ l : List GVal, vVs l = l.map vV
 | [] => rfl
 | a :: l => by rw [vVs, vVs_map l, List.map_cons]
@[simp] theorem vV_eq (v : GVal) : vV v = .ag [I v.kind, I v.n, I v.x, S v.s, .sl (v.l.map vV)] := by cases v; simp -implicitDefEqProofs -dsimp [vV]
def vF (e : TypeId) (v : GVal) : V := .ag [I v.kind, I v.n, I v.x, S v.s, .row true e (v.l.map vV)]
theorem passC_self {P : Program} {σ : St} (x : V) (h : dat x = true) : passC P σ x x := by
 cases x <;> first | exact ⟨h, rfl⟩ | rfl | cases h
theorem passCs_self {P : Program} {σ : St} : ∀ (xs : List V), dats xs = true → passCs P σ xs xs
 | [], _ => trivial
 | x :: xs, h => by
  simp only [dats, Bool.and_eq_true] at h
  exact ⟨passC_self x h.1, passCs_self xs h.2⟩
theorem pass_self {P : Program} {σ : St} (x : V) (h : dat x = true) : pass P σ x x := by
 cases x with
 | ag cs => exact passCs_self _ h
 | blk cs => cases h
 | _ => exact passC_self (P := P) (σ := σ) _ h
theorem passL_self {P : Program} {σ : St} : ∀ (xs : List V), dats xs = true → passL P σ xs xs
 | [], _ => trivial
 | x :: xs, h => by
  simp only [dats, Bool.and_eq_true] at h
  exact ⟨pass_self x h.1, passL_self xs h.2⟩
theorem wpcall_d {P : Program} {g : Prop} {f : FuncId} {xs : List V} {d : Option Nat} {σ : St} {K : List (Comp × V) → List Comp → Prop} {outs rs : List V} (h : Fn P f xs outs rs) (hk : dats xs = true ∧ callK g xs xs outs rs d σ K) : WC P g f xs d σ K () :=
 ⟨xs, outs, rs, fun _ => ⟨passL_self xs hk.1, h⟩, hk.2⟩
theorem wpcall_g {P : Program} {g : Prop} {f : FuncId} {xs : List V} {d : Option Nat} {σ : St} {K : List (Comp × V) → List Comp → Prop} {outs rs : List V} (h : g → Fn P f xs outs rs) (hk : dats xs = true ∧ callK g xs xs outs rs d σ K) : WC P g f xs d σ K () :=
 ⟨xs, outs, rs, fun hg => ⟨passL_self xs hk.1, h hg⟩, hk.2⟩
attribute [simp] bv
theorem wrK_i64 (n : Int) : wrK .i64 n = (n + 9223372036854775808) % 18446744073709551616 - 9223372036854775808 := by rw [wrK_eq, IntKind.wrap_i64]
theorem wrK_u64 (n : Int) : wrK .u64 n = n % 18446744073709551616 := by rw [wrK_eq, IntKind.wrap_u64]
theorem wrap64_id (n : Int) (h : -9223372036854775808 ≤ n ∧ n ≤ 9223372036854775807) : wrK .i64 n = n := by
 rw [wrK_i64]; omega
theorem wrapu64_id (n : Int) (h : 0 ≤ n ∧ n ≤ 18446744073709551615) : wrK .u64 n = n := by
 rw [wrK_u64]; omega
@[simp] theorem wrap_byte (x : UInt8) : wrK .i64 x.toNat = x.toNat := wrap64_id _ (by have := x.toNat_lt; omega)
@[simp] theorem wrapu_byte (x : UInt8) : wrK .u64 x.toNat = x.toNat := wrapu64_id _ (by have := x.toNat_lt; omega)
@[simp] theorem tdiv_nat (n : Nat) (m : Int) : (n : Int).tdiv m = n / m := Int.tdiv_eq_ediv_of_nonneg (by omega)
@[simp] theorem tmod_nat (n : Nat) (m : Int) : (n : Int).tmod m = n % m := Int.tmod_eq_emod_of_nonneg (by omega)
@[simp] theorem wrap_lit (n : Nat) (h : n ≤ 9223372036854775807) : wrK .i64 (no_index (OfNat.ofNat n)) = OfNat.ofNat n := by
 have : (OfNat.ofNat n : Int) = (n : Int) := rfl
 rw [this]; exact wrap64_id _ (by omega)
@[simp] theorem wrapu_lit (n : Nat) (h : n ≤ 18446744073709551615) : wrK .u64 (no_index (OfNat.ofNat n)) = OfNat.ofNat n := by
 have : (OfNat.ofNat n : Int) = (n : Int) := rfl
 rw [this]; exact wrapu64_id _ (by omega)
@[simp] theorem wrap_neg1 : wrK .i64 (-1) = -1 := wrap64_id _ (by omega)
attribute [simp] ByteArray.toList_eq
@[simp] theorem toBA_bv (l : List UInt8) : toBA (l.map bv) = ⟨l.toArray⟩ := by
 unfold toBA
 refine congrArg (fun l => ByteArray.mk (List.toArray l)) (?_ : List.map _ (l.map bv) = l)
 induction l with
 | nil => rfl
 | cons x l ih => rw [List.map_cons, List.map_cons, ih]; simp -implicitDefEqProofs -dsimp [bv]
@[simp] theorem all_bv (l : List UInt8) : (l.map bv).all isByte = true := by
 rw [List.all_eq_true]; intro x hx
 obtain ⟨y, _, rfl⟩ := List.mem_map.1 hx
 have := y.toNat_lt
 simp -implicitDefEqProofs -dsimp [bv, isByte]; omega
theorem chkOk {ops : Array Oper} {fp : List FP} (h : chkFP ops fp = true) : chkFP ops fp = true := h
@[simp] theorem bits_i64 : IntKind.i64.bits = 64 := rfl
@[simp] theorem bits_u64 : IntKind.u64.bits = 64 := rfl
theorem wrapu64_nat (n : Nat) (h : n ≤ 18446744073709551615) : wrK .u64 n = n := wrapu64_id _ (by omega)
theorem fdiv_nn (n m : Int) (h : 0 ≤ m) : n.fdiv m = n / m := Int.fdiv_eq_ediv_of_nonneg _ h
theorem or64 {a b : Nat} (ha : a < 72057594037927936) (hb : b < 256) : bitsV (fun _ x y => x ||| y) .u64 ((a : Int) * 256) (b : Int) = 256 * a + b := by
 unfold bitsV
 have e1 : ((a : Int) * 256) = ((a * 256 : Nat) : Int) := by omega
 have e2 : ((BitVec.ofInt IntKind.u64.bits ((a : Int) * 256)) ||| BitVec.ofInt IntKind.u64.bits (b : Int)).toNat = 256 * a + b := by
  rw [e1, BitVec.ofInt_natCast, BitVec.ofInt_natCast, BitVec.toNat_or, BitVec.toNat_ofNat, BitVec.toNat_ofNat]
  rw [Nat.mod_eq_of_lt (by show a * 256 < 2 ^ 64; omega), Nat.mod_eq_of_lt (by show b < 2 ^ 64; omega)]
  have := Nat.shiftLeft_add_eq_or_of_lt (i := 8) (b := b) (by omega) a
  rw [Nat.shiftLeft_eq] at this
  rw [← this]; omega
 rw [e2, wrapu64_id _ (by omega)]; omega
end Go.Proofs.YtlfblkekbcfjpaaGreatDoor
namespace Go.Proofs.YtlfblkekbcfjpaaGreatDoor
open Go Go.RowKit
set_option maxHeartbeats 1000000
def pV (p : GVal × Value) : V := .ag [I p.1.kind, I p.1.n, I p.1.x, S p.1.s, .pin p.2 (p.1.l.map vV)]
theorem Rs_five {k n x : Int} {s : ByteArray} {y : V} {E : Env} {F : List Nat} {vs : List Value} : Rs [I k, I n, I x, S s, y] E F vs ↔ ∃ u, vs = [.int .i64 k, .int .i64 n, .int .i64 x, .string s, u] ∧ R y E F u ∧ u.oneCell' = true := by
 constructor
 ·intro h
  simp only [Rs, R] at h
  obtain ⟨_, _, _, _, rfl, rfl, ⟨rfl, rfl, _⟩, _, _, _, _, _, rfl, rfl, ⟨rfl, rfl, _⟩, _, _, _, _, _, rfl, rfl, ⟨rfl, rfl, _⟩, _, _, _, _, _, rfl, rfl, ⟨rfl, rfl, _⟩, _, F1, F2, u, ws, rfl, rfl, h, h1, rfl, rfl⟩ := h
  exact ⟨u, rfl, by simpa using h, h1⟩
 ·rintro ⟨u, rfl, h, h1⟩
  simp only [Rs, R]
  exact ⟨[], F, _, _, rfl, rfl, ⟨rfl, rfl, rfl⟩, rfl, [], F, _, _, rfl, rfl, ⟨rfl, rfl, rfl⟩, rfl, [], F, _, _, rfl, rfl, ⟨rfl, rfl, rfl⟩, rfl, [], F, _, _, rfl, rfl, ⟨rfl, rfl, rfl⟩, rfl, F, [], u, _, by simp, rfl, h, h1, rfl, rfl⟩
theorem R_ag {cs : List V} {E : Env} {F : List Nat} {v : Value} : R (.ag cs) E F v ↔ ∃ vs : Array Value, v = .agg vs ∧ Rs cs E F vs.toList := by unfold R; exact Iff.rfl
theorem R_five {k n x : Int} {s : ByteArray} {y : V} {E : Env} {F : List Nat} {v : Value} : R (.ag [I k, I n, I x, S s, y]) E F v ↔ ∃ u, v = .agg #[.int .i64 k, .int .i64 n, .int .i64 x, .string s, u] ∧ R y E F u ∧ u.oneCell' = true := by
 rw [R_ag]
 constructor
 ·rintro ⟨vs, rfl, h⟩
  obtain ⟨u, h1, h2⟩ := Rs_five.1 h
  exact ⟨u, by rw [← Array.toArray_toList (xs := vs), h1], h2⟩
 ·rintro ⟨u, rfl, h⟩
  exact ⟨_, rfl, Rs_five.2 ⟨u, rfl, h⟩⟩
theorem Els_cons {x : V} {xs : List V} {E : Env} {F : List Nat} {vs : List Value} {k : Nat} : Els (x :: xs) E F vs k ↔ ∃ F1 F2 v ws, F = F1 ++ F2 ∧ vs = v.cells.toList ++ ws ∧ R x E F1 v ∧ v.cells.size = k ∧ (∀ u ∈ v.cells, u.oneCell' = true) ∧ Els xs E F2 ws k := by
 conv => lhs; unfold Els
theorem Els_pin {E : Env} {k : Nat} : ∀ {l : List GVal} {F : List Nat} {vs : List Value}, Els (l.map vV) E F vs k → ∃ ps : List (GVal × Value), ps.map Prod.fst = l ∧ Els (ps.map pV) E F vs k
 | [], _, _, h => ⟨[], rfl, h⟩
 | x :: l, F, vs, h => by
  rw [List.map_cons, Els_cons, vV_eq] at h
  obtain ⟨F1, F2, v, ws, rfl, rfl, h1, h2, h3, h4⟩ := h
  obtain ⟨ps, h5, h6⟩ := Els_pin h4
  obtain ⟨u, h7, h8, h9⟩ := R_five.1 h1
  refine ⟨(x, u) :: ps, by rw [List.map_cons, h5], ?_⟩
  rw [List.map_cons, Els_cons]
  exact ⟨F1, F2, v, ws, rfl, rfl, R_five.2 ⟨u, h7, R_pin.2 ⟨rfl, h8⟩, h9⟩, h2, h3, h6⟩
theorem Els_sub {E E' : Env} {k k' : Nat} (hE : ∀ b o u, E.Φ b o = some u → E'.Φ b o = some u) : ∀ {ps qs : List (GVal × Value)}, qs.Sublist ps → ∀ {F G : List Nat} {vs ws : List Value}, Els (ps.map pV) E.dat F vs k → Els (qs.map pV) E'.dat G ws k' →
  ∃ F', F'.Sublist F ∧ Els ((qs.map Prod.fst).map vV) E'.dat F' ws k' := by
 intro ps qs hs
 induction hs with
 | slnil =>
  intro F G vs ws h h'
  refine ⟨[], List.nil_sublist _, ?_⟩
  simp only [List.map_nil] at h' ⊢
  unfold Els at h' ⊢
  exact ⟨rfl, h'.2⟩
 | cons p hs ih =>
  intro F G vs ws h h'
  rw [List.map_cons, Els_cons] at h
  obtain ⟨F1, F2, v, us, rfl, rfl, h1, h2, h3, h4⟩ := h
  obtain ⟨F', h5, h6⟩ := ih h4 h'
  exact ⟨F', h5.trans (List.sublist_append_right _ _), h6⟩
 | cons_cons p hs ih =>
  intro F G vs ws h h'
  rw [List.map_cons, Els_cons] at h h'
  obtain ⟨F1, F2, v, us, rfl, rfl, h1, h2, h3, h4⟩ := h
  obtain ⟨G1, G2, v', us', rfl, rfl, h1', h2', h3', h4'⟩ := h'
  obtain ⟨F', h5, h6⟩ := ih h4 h4'
  obtain ⟨u, h7, h8, h9⟩ := R_five.1 h1
  obtain ⟨u', h7', h8', h9'⟩ := R_five.1 h1'
  rw [R_pin] at h8 h8'
  obtain ⟨rfl, h8⟩ := h8
  obtain ⟨rfl, h8'⟩ := h8'
  refine ⟨F1 ++ F', List.Sublist.append (List.Sublist.refl _) h5, ?_⟩
  rw [List.map_cons, List.map_cons, Els_cons, vV_eq]
  refine ⟨F1, F', v', us', rfl, rfl, R_five.2 ⟨p.2, h7', ?_, h9'⟩, h2', h3', h6⟩
  exact R.free (E := E.dat) rfl _ (fun b _ o u hu => hE b o u hu) h8
theorem framed_sub {w0 w : World} {X X' : List Nat} (hX : ∀ b ∈ X', b ∈ X) (h : Framed w0 X' w) : Framed w0 X w := ⟨h.1, h.2.1, h.2.2.1, h.2.2.2.1, fun b h1 h2 => h.2.2.2.2 b h1 fun h3 => h2 (hX b h3)⟩
theorem vF_un {e : TypeId} {k n x : Int} {s : ByteArray} {d : Bool} {xs : List V} (i j : Nat) (h : ¬ (i = 0 ∧ j = 4)) : inSt [V.ag [I k, I n, I x, S s, .row d e xs]] (.r i j) = .un := by
 rw [inSt_r']
 match i, j with
 | 0, 0 | 0, 1 | 0, 2 | 0, 3 | 0, 5 => rfl
 | 0, 4 => exact absurd ⟨rfl, rfl⟩ h
 | 0, j + 6 => simp -implicitDefEqProofs -dsimp [nth, rowIn, rowAt]
 | i + 1, j => simp -implicitDefEqProofs -dsimp [nth, rowIn]
theorem vF_un' {e : TypeId} {k n x : Int} {s : ByteArray} {d : Bool} {xs : List V} (i j : Nat) (h : ¬ (i = 1 ∧ j = 4)) : inSt [V.un, V.ag [I k, I n, I x, S s, .row d e xs]] (.r i j) = .un := by
 rw [inSt_r']
 match i, j with
 | 0, j => simp -implicitDefEqProofs -dsimp [nth, rowIn]
 | 1, 0 | 1, 1 | 1, 2 | 1, 3 | 1, 5 => rfl
 | 1, 4 => exact absurd ⟨rfl, rfl⟩ h
 | 1, j + 6 => simp -implicitDefEqProofs -dsimp [nth, rowIn, rowAt]
 | i + 2, j => simp -implicitDefEqProofs -dsimp [nth, rowIn]
theorem Fn_pin {P : Program} {f : FuncId} {e : TypeId} {v v' : GVal}
  (hf : ∀ ps : List (GVal × Value), ps.map Prod.fst = v.l → ∃ qs : List (GVal × Value), qs.Sublist ps ∧ qs.map Prod.fst = v'.l ∧
   ∃ dd, Fn P f [.ag [I v.kind, I v.n, I v.x, S v.s, .row false e (ps.map pV)]] [.un] [.ag [I v'.kind, I v'.n, I v'.x, S v'.s, .row dd e (qs.map pV)]]) : Fn P f [vF e v] [.un] [vF e v'] := by
 intro C w vs hP hw0 hnp hμ hH hsz
 obtain ⟨E, cb, Fc, h⟩ := hH
 unfold vF at h ⊢
 have hrow : COk C.P E w (.r 0 4) (.row true e (v.l.map vV)) (cb (.r 0 4)) (Fc (.r 0 4)) := h.mem (.r 0 4)
 obtain ⟨u, cs, k, hr1, hr2, hr3, hr4, hr5, hr6, hr7⟩ := hrow
 obtain ⟨ps, hp1, hp2⟩ := Els_pin hr5
 obtain ⟨qs, hq1, hq2, dd, hF⟩ := hf ps hp1
 have hlen : (v.l.map vV).length = (ps.map pV).length := by rw [← hp1]; simp -implicitDefEqProofs -dsimp
 have hexc : exc (.row true e (v.l.map vV)) (cb (.r 0 4)) (Fc (.r 0 4)) = (cb (.r 0 4)).toList ++ Fc (.r 0 4) := by simp -implicitDefEqProofs -dsimp [exc, deep]
 have hnd := h.nod (.r 0 4)
 change (exc (.row true e (v.l.map vV)) (cb (.r 0 4)) (Fc (.r 0 4))).Nodup at hnd
 rw [hexc] at hnd
 have hnew : ∀ x, x ∈ (cb (.r 0 4)).toList ++ Fc (.r 0 4) → x ∈ C.X ∧ x < w.heap.size := fun x hx => by
  rw [← hexc] at hx
  obtain ⟨h1, h2⟩ := h.new (.r 0 4) x hx
  rw [hw0] at h1
  exact ⟨h1.resolve_left (by omega), h2⟩
 have hX : ∀ b ∈ (cb (.r 0 4)).toList, b ∈ C.X := fun b hb => (hnew b (List.mem_append_left _ hb)).1
 have hst : ∀ c, c ≠ .r 0 4 → inSt [V.ag [I v.kind, I v.n, I v.x, S v.s, .row false e (ps.map pV)]] c = inSt [V.ag [I v.kind, I v.n, I v.x, S v.s, .row true e (v.l.map vV)]] c := fun c hc => by
  cases c with
  | t i => cases i <;> rfl
  | b i => cases i <;> rfl
  | r i j =>
   have h9 : ¬ (i = 0 ∧ j = 4) := fun h9 => hc (by rw [h9.1, h9.2])
   rw [vF_un i j h9, vF_un i j h9]
 have hex : ∀ c x, x ∈ exc (inSt [V.ag [I v.kind, I v.n, I v.x, S v.s, .row false e (ps.map pV)]] c) (cb c) (Fc c) → x ∈ exc (inSt [V.ag [I v.kind, I v.n, I v.x, S v.s, .row true e (v.l.map vV)]] c) (cb c) (Fc c) := fun c x hx => by
  by_cases hc : c = .r 0 4
  ·subst hc
   change x ∈ exc (.row false e (ps.map pV)) _ _ at hx
   change x ∈ exc (.row true e (v.l.map vV)) _ _
   rw [hexc]
   simp only [exc, deep] at hx
   exact List.mem_append_left _ (by simpa using hx)
  ·rw [hst c hc] at hx; exact hx
 have hothers : ∀ c, c ≠ .r 0 4 → exc (inSt [V.ag [I v.kind, I v.n, I v.x, S v.s, .row true e (v.l.map vV)]] c) (cb c) (Fc c) = [] := fun c hc => by
  have h8 := h.mem c
  cases c with
  | t i => simp only [COk] at h8; simp -implicitDefEqProofs -dsimp [exc, h8.1, h8.2]
  | b i =>
   have h9 : inSt [V.ag [I v.kind, I v.n, I v.x, S v.s, .row true e (v.l.map vV)]] (.b i) = .un := by cases i <;> rfl
   rw [h9] at h8 ⊢
   simp only [COk] at h8; simp -implicitDefEqProofs -dsimp [exc, h8.1, h8.2.1]
  | r i j =>
   have h9 : ¬ (i = 0 ∧ j = 4) := fun h9 => hc (by rw [h9.1, h9.2])
   rw [vF_un i j h9] at h8 ⊢
   simp only [COk] at h8; simp -implicitDefEqProofs -dsimp [exc, h8.1, h8.2.1]
 have hS : Sim { C with X := (cb (.r 0 4)).toList, Φ0 := E.Φ } E cb Fc (inSt [V.ag [I v.kind, I v.n, I v.x, S v.s, .row false e (ps.map pV)]]) w ⟨vs, []⟩ := by
  refine ⟨fun _ _ _ h => h, h.frz, fun _ _ _ h => .inl h, h.loc, fun i => ?_, fun c => ?_, h.out, fun c c' hne x hx hx' => h.dis c c' hne x (hex c x hx) (hex c' x hx'), fun c => ?_, fun c x hx => ?_, h.os, h.tape, h.output, h.size, fun b hb _ => by rw [hw0], h.dfr, fun i g hi => ?_, fun w' hw' => h.tab w' (framed_sub hX hw')⟩
  ·rw [hst _ (by simp -implicitDefEqProofs -dsimp)]; exact h.tmp i
  ·by_cases hc : c = .r 0 4
   ·subst hc
    change COk _ E w (.r 0 4) (.row false e (ps.map pV)) _ _
    exact ⟨u, cs, k, hr1, hr2, hr3, by rw [← hlen]; exact hr4, hp2, hr6, fun h => by cases h⟩
   ·rw [hst c hc]; exact h.mem c
  ·by_cases hc : c = .r 0 4
   ·subst hc
    change (exc (.row false e (ps.map pV)) _ _).Nodup
    simp only [exc, deep]
    exact (List.nodup_append.1 hnd).1 |> fun h => by simpa using h
   ·rw [hst c hc]; exact h.nod c
  ·by_cases hc : c = .r 0 4
   ·subst hc
    change x ∈ exc (.row false e (ps.map pV)) _ _ at hx
    simp only [exc, deep] at hx
    have hx : x ∈ (cb (.r 0 4)).toList := by simpa using hx
    exact ⟨.inr hx, (hnew x (List.mem_append_left _ hx)).2⟩
   ·rw [hst c hc, hothers c hc] at hx; cases hx
  ·have h9 := h.mu0 i g hi
   rw [hst _ (by simp -implicitDefEqProofs -dsimp)]; exact h9
 have hcall := hF { C with X := (cb (.r 0 4)).toList, Φ0 := E.Φ } w vs hP hw0 hnp (fun i zs hz => by
  cases i with
  | zero => cases hz
  | succ i => simp at hz) ⟨E, cb, Fc, hS⟩ hsz
 have hpost : ∀ e1 w', (match e1, w' with
   | Ending.returned v1, w' => ∃ us : List Value, us.length = [V.ag [I v'.kind, I v'.n, I v'.x, S v'.s, .row dd e (qs.map pV)]].length ∧ resV v1 us ∧ Held { C with X := (cb (.r 0 4)).toList, Φ0 := E.Φ } (inSt ([V.un] ++ [V.ag [I v'.kind, I v'.n, I v'.x, S v'.s, .row dd e (qs.map pV)]])) w' ⟨vs ++ us.toArray, []⟩
   | .outgrown, _ => False
   | .panicked _, _ => False) → (match e1, w' with
   | Ending.returned v1, w' => ∃ us : List Value, us.length = [V.ag [I v'.kind, I v'.n, I v'.x, S v'.s, .row true e (v'.l.map vV)]].length ∧ resV v1 us ∧ Held C (inSt ([V.un] ++ [V.ag [I v'.kind, I v'.n, I v'.x, S v'.s, .row true e (v'.l.map vV)]])) w' ⟨vs ++ us.toArray, []⟩
   | .outgrown, _ => False
   | .panicked _, _ => False) := by
  intro e1 w' h1
  cases e1 with
  | outgrown => exact h1
  | panicked _ => exact h1
  | returned v1 =>
   obtain ⟨us, hu1, hu2, E', cb', Fc', h'⟩ := h1
   refine ⟨us, hu1, hu2, ?_⟩
   simp only [List.cons_append, List.nil_append] at h' ⊢
   have hrow' : COk C.P E' w' (.r 1 4) (.row dd e (qs.map pV)) (cb' (.r 1 4)) (Fc' (.r 1 4)) := h'.mem (.r 1 4)
   obtain ⟨u', cs', k', hs1, hs2, hs3, hs4, hs5, hs6, _⟩ := hrow'
   have hΦ : ∀ b o u, E.Φ b o = some u → E'.Φ b o = some u := fun b o u hu => h'.phi0 b o u hu
   obtain ⟨F', hF1, hF2⟩ := Els_sub hΦ hq1 hp2 hs5
   rw [hq2] at hF2
   have hlen' : (v'.l.map vV).length = (qs.map pV).length := by rw [← hq2]; simp -implicitDefEqProofs -dsimp
   have hst' : ∀ c, c ≠ .r 1 4 → inSt [V.un, V.ag [I v'.kind, I v'.n, I v'.x, S v'.s, .row true e (v'.l.map vV)]] c = inSt [V.un, V.ag [I v'.kind, I v'.n, I v'.x, S v'.s, .row dd e (qs.map pV)]] c := fun c hc => by
    cases c with
    | t i => match i with | 0 | 1 | _ + 2 => rfl
    | b i => match i with | 0 | 1 | _ + 2 => rfl
    | r i j =>
     have h9 : ¬ (i = 1 ∧ j = 4) := fun h9 => hc (by rw [h9.1, h9.2])
     rw [vF_un' i j h9, vF_un' i j h9]
   have hoth : ∀ c, c ≠ .r 1 4 → cb' c = none ∧ exc (inSt [V.un, V.ag [I v'.kind, I v'.n, I v'.x, S v'.s, .row dd e (qs.map pV)]] c) (cb' c) (Fc' c) = [] := fun c hc => by
    have h8 := h'.mem c
    cases c with
    | t i => simp only [COk] at h8; simp -implicitDefEqProofs -dsimp [exc, h8.1, h8.2]
    | b i =>
     have h9 : inSt [V.un, V.ag [I v'.kind, I v'.n, I v'.x, S v'.s, .row dd e (qs.map pV)]] (.b i) = .un := by match i with | 0 | 1 | _ + 2 => rfl
     rw [h9] at h8 ⊢
     simp only [COk] at h8; simp -implicitDefEqProofs -dsimp [exc, h8.1, h8.2.1]
    | r i j =>
     have h9 : ¬ (i = 1 ∧ j = 4) := fun h9 => hc (by rw [h9.1, h9.2])
     rw [vF_un' i j h9] at h8 ⊢
     simp only [COk] at h8; simp -implicitDefEqProofs -dsimp [exc, h8.1, h8.2.1]
   have hnew' : ∀ x ∈ (cb' (.r 1 4)).toList, (w.heap.size ≤ x ∨ x ∈ (cb (.r 0 4)).toList) ∧ x < w'.heap.size := fun x hx => by
    have h9 := h'.new (.r 1 4) x (by
     change x ∈ exc (.row dd e (qs.map pV)) _ _
     simp only [exc]; exact List.mem_append_left _ hx)
    simp only [hw0] at h9; exact h9
   have hFm : ∀ b ∈ F', b ∈ Fc (.r 0 4) := fun b hb => hF1.subset hb
   have hap : ∀ b ∈ F', b ∉ (cb (.r 0 4)).toList := fun b hb h9 => (List.nodup_append.1 hnd).2.2 b h9 b (hFm b hb) rfl
   have hsz' : w.heap.size ≤ w'.heap.size := by have := h'.size; simp only [hw0] at this; exact this
   refine ⟨E', cb', fun c => if c = .r 1 4 then F' else Fc' c, fun b o u hu => hΦ b o u (h.phi0 b o u hu), h'.frz, fun b o u hu => ?_, h'.loc, fun i => ?_, fun c => ?_, h'.out, fun c c' hne x hx hx' => ?_, fun c => ?_, fun c x hx => ?_, h'.os, h'.tape, h'.output, h'.size, fun b hb hb2 => h'.old b hb (fun h9 => hb2 (hX b h9)), h'.dfr, fun i g hi => ?_, h.tab⟩
   ·rcases h'.grow b o u hu with h9 | h9
    ·exact h.grow b o u h9
    ·exact .inr (h9.imp_right (hX b))
   ·rw [hst' _ (by simp -implicitDefEqProofs -dsimp)]; exact h'.tmp i
   ·by_cases hc : c = .r 1 4
    ·subst hc
     simp only [if_true]
     change COk _ E' w' (.r 1 4) (.row true e (v'.l.map vV)) _ _
     refine ⟨u', cs', k', hs1, hs2, hs3, by rw [hlen']; exact hs4, hF2, hs6, fun _ b hb => ?_⟩
     obtain ⟨ds, t, h9⟩ := hr7 rfl b (hFm b hb)
     refine ⟨ds, t, ?_⟩
     have h10 := h'.old b (by rw [hw0]; exact (hnew b (List.mem_append_right _ (hFm b hb))).2) (hap b hb)
     simp only [hw0] at h10
     rw [h10]; exact h9
    ·rw [hst' c hc, if_neg hc]; exact h'.mem c
   ·by_cases hc : c = .r 1 4
    ·by_cases hc' : c' = .r 1 4
     ·exact hne (hc.trans hc'.symm)
     ·rw [hst' c' hc', if_neg hc', (hoth c' hc').2] at hx'; cases hx'
    ·rw [hst' c hc, if_neg hc, (hoth c hc).2] at hx; cases hx
   ·by_cases hc : c = .r 1 4
    ·subst hc
     simp only [if_true]
     change (exc (.row true e (v'.l.map vV)) (cb' (.r 1 4)) F').Nodup
     simp only [exc, deep, if_true]
     refine List.nodup_append.2 ⟨by cases cb' (.r 1 4) <;> simp, hF1.nodup (List.nodup_append.1 hnd).2.1, fun x hx y hy hxy => ?_⟩
     subst hxy
     rcases (hnew' x hx).1 with h9 | h9
     ·have := (hnew x (List.mem_append_right _ (hFm x hy))).2; omega
     ·exact hap x hy h9
    ·rw [hst' c hc, if_neg hc, (hoth c hc).2]; exact List.nodup_nil
   ·by_cases hc : c = .r 1 4
    ·subst hc
     simp only [if_true] at hx
     change x ∈ exc (.row true e (v'.l.map vV)) (cb' (.r 1 4)) F' at hx
     simp only [exc, deep, if_true] at hx
     rcases List.mem_append.1 hx with h9 | h9
     ·obtain ⟨h10, h11⟩ := hnew' x h9
      rw [hw0]
      exact ⟨h10.imp_right (hX x), h11⟩
     ·have := hnew x (List.mem_append_right _ (hFm x h9))
      exact ⟨.inr this.1, by omega⟩
    ·rw [hst' c hc, if_neg hc, (hoth c hc).2] at hx; cases hx
   ·have h9 := h'.mu0 i g hi
    rw [hst' _ (by simp -implicitDefEqProofs -dsimp)]; exact h9
 unfold CallR at hcall ⊢
 split at hcall
 ·rename_i v1 w1 _
  exact hpost (.returned v1) w1 hcall
 ·refine hcall.mono fun e1 w1 h1 => ?_
  cases e1 with
  | returned v1 => exact hpost (.returned v1) w1 h1
  | outgrown => exact h1
  | panicked c => exact h1
 ·exact hcall
end Go.Proofs.YtlfblkekbcfjpaaGreatDoor
namespace Go.Proofs.YtlfblkekbcfjpaaGreatDoor
open Go Go.RowKit
set_option maxRecDepth 100000
set_option maxHeartbeats 1000000
open Classical in
noncomputable def Ew (w : World) (p : Nat → Prop) : Env := ⟨fun b o => if p b then w.cell? ⟨b, o, none⟩ else none, fun _ => none, fun _ _ => none, true⟩
theorem Ew_in {w : World} {p : Nat → Prop} {b o : Nat} {u : Value} (hp : p b) (h : w.cell? ⟨b, o, none⟩ = some u) : (Ew w p).Φ b o = some u := by simp -implicitDefEqProofs -dsimp [Ew, hp, h]
theorem Ew_cell {w : World} {p : Nat → Prop} {b o : Nat} {u : Value} (h : (Ew w p).Φ b o = some u) : p b ∧ w.cell? ⟨b, o, none⟩ = some u := by
 by_cases hp : p b
 ·exact ⟨hp, by simpa [Ew, hp] using h⟩
 ·simp -implicitDefEqProofs -dsimp [Ew, hp] at h
def TbK (P : Program) (w : World) : Prop := ∀ w', Framed w [] w' → Tb P w'
theorem TbK.below {P : Program} {w w' : World} (h : TbK P w) (hb : Below w.heap.size w w') : TbK P w' := fun w2 h2 =>
 h w2 ⟨Nat.le_trans hb.size h2.1, h2.2.1.trans hb.os, h2.2.2.1.trans hb.tape, h2.2.2.2.1.trans hb.output, fun b hlt hx => (h2.2.2.2.2 b (Nat.lt_of_lt_of_le hlt hb.size) hx).trans (hb.block b hlt)⟩
theorem TbK.kept {P : Program} {w w' : World} {F : List Nat} {base : Nat} (h : TbK P w) (hb : Below base w w') : True := trivial
theorem R_SlR {S : Nat → Prop} {E : Env} {w : World} (hE : ∀ b o u, E.Φ b o = some u → S b ∧ w.cell? ⟨b, o, none⟩ = some u) (v : GVal) : ∀ {F : List Nat} {u : Value}, R (.sl (v.l.map vV)) E F u → ∃ A c F', u = .slice A v.l.length c ∧ F'.Sublist F ∧ (∀ b ∈ F', S b) ∧ SlR w F' v.l A c := by
 induction v using GVal.ind generalizing E with
 | h v ih =>
  intro F u h
  have hel : ∀ (l : List GVal), (∀ x ∈ l, ∀ {E : Env}, (∀ b o u, E.Φ b o = some u → S b ∧ w.cell? ⟨b, o, none⟩ = some u) → ∀ {F : List Nat} {u : Value}, R (.sl (x.l.map vV)) E F u → ∃ A c F', u = .slice A x.l.length c ∧ F'.Sublist F ∧ (∀ b ∈ F', S b) ∧ SlR w F' x.l A c) →
    ∀ {F : List Nat} {vs : List Value} {k : Nat}, Els (l.map vV) E.dat F vs k → ∃ F', F'.Sublist F ∧ (∀ b ∈ F', S b) ∧ Elems w l F' vs := by
   intro l
   induction l with
   | nil =>
    intro _ F vs k h
    rw [List.map_nil] at h
    unfold Els at h
    exact ⟨[], List.nil_sublist _, by simp, rfl, h.2⟩
   | cons a l ihl =>
    intro hx F vs k h
    rw [List.map_cons, Els_cons, vV_eq] at h
    obtain ⟨F1, F2, v1, ws, rfl, rfl, h1, h2, h3, h4⟩ := h
    obtain ⟨G2, s2, b2, e2⟩ := ihl (fun x hm => hx x (List.mem_cons_of_mem _ hm)) h4
    obtain ⟨u1, rfl, h5, h6⟩ := R_five.1 h1
    obtain ⟨A, c, G1, rfl, s1, b1, e1⟩ := hx a (List.mem_cons_self ..) (E := E.dat) hE h5
    exact ⟨G1 ++ G2, s1.append s2, fun b hb => (List.mem_append.1 hb).elim (b1 b) (b2 b), G1, G2, _, ws, rfl, rfl, rpVal_iff.2 ⟨A, c, rfl, trivial, e1⟩, e2⟩
  unfold R at h
  obtain ⟨A, c, rfl, h1, h2, h3⟩ := h
  rw [List.length_map] at h1
  refine ⟨A, c, ?_⟩
  rw [List.length_map]
  by_cases hz : v.l = []
  ·refine ⟨[], rfl, List.nil_sublist _, by simp, h1, h2, .inl ⟨hz, rfl, fun hA => ?_⟩⟩
   rcases h3 with ⟨_, _, h3⟩ | ⟨b, off, F', vs, k, h4, _⟩
   ·exact h3 hA
   ·rw [hA] at h4; cases h4
  ·rcases h3 with ⟨h3, _⟩ | ⟨b, off, F', vs, k, rfl, rfl, h5, h6⟩
   ·exact absurd (List.map_eq_nil_iff.1 h3) hz
   ·obtain ⟨G, s, hb, e⟩ := hel v.l (fun x hx => by
     obtain ⟨i, hi, rfl⟩ := List.getElem_of_mem hx
     intro E hE F u hR
     exact ih i hi hE hR) h6
    have hc : CellsAt w b off vs := fun j u hj => (hE _ _ _ (h5 j u hj)).2
    have hlt : S b := by
     have hw : Rep.wd GVal = 5 := rfl
     have : 0 < v.l.length := List.length_pos_iff.2 hz
     have hln : 0 < vs.length := by rw [e.len, hw]; omega
     exact (hE _ _ _ (h5 0 vs[0] (List.getElem?_eq_getElem hln))).1
    exact ⟨b :: G, rfl, s.cons_cons b, fun x hx => by rcases List.mem_cons.1 hx with rfl | hx; exact hlt; exact hb x hx, h1, h2, .inr ⟨b, off, G, vs, rfl, rfl, e, hc⟩⟩
theorem SlR_R {p : Nat → Prop} {w : World} (v : GVal) : ∀ {F : List Nat} {A : Option Addr} {c : Nat}, SlR w F v.l A c → (∀ b ∈ F, p b) → R (.sl (v.l.map vV)) (Ew w p).dat F (.slice A v.l.length c) := by
 induction v using GVal.ind with
 | h v ih =>
  intro F A c h hp
  have hel : ∀ (l : List GVal), (∀ x ∈ l, ∀ {F : List Nat} {A : Option Addr} {c : Nat}, SlR w F x.l A c → (∀ b ∈ F, p b) → R (.sl (x.l.map vV)) (Ew w p).dat F (.slice A x.l.length c)) → ∀ {F : List Nat} {xs : List Value}, Elems w l F xs → (∀ b ∈ F, p b) → Els (l.map vV) (Ew w p).dat F xs 5 := by
   intro l
   induction l with
   | nil => intro _ F xs h _; rw [List.map_nil]; unfold Els; exact h
   | cons a l ihl =>
    intro hx F xs h hp
    obtain ⟨F1, F2, cs, ys, rfl, rfl, h1, h2⟩ := h
    obtain ⟨A, c, rfl, _, h3⟩ := rpVal_iff.1 h1
    rw [List.map_cons, Els_cons, vV_eq]
    refine ⟨F1, F2, .agg #[.int .i64 a.kind, .int .i64 a.n, .int .i64 a.x, .string a.s, .slice A a.l.length c], ys, rfl, rfl, R_five.2 ⟨_, rfl, hx a (List.mem_cons_self ..) h3 (fun b hb => hp b (List.mem_append_left _ hb)), rfl⟩, rfl, fun u hu => ?_, ihl (fun x hm => hx x (List.mem_cons_of_mem _ hm)) h2 (fun b hb => hp b (List.mem_append_right _ hb))⟩
    simp -implicitDefEqProofs -dsimp [Value.cells] at hu
    rcases hu with rfl | rfl | rfl | rfl | rfl <;> rfl
  obtain ⟨h1, h2, h3⟩ := h
  unfold R
  refine ⟨A, c, by rw [List.length_map], by rw [List.length_map]; exact h1, h2, ?_⟩
  rcases h3 with ⟨h4, h5, h6⟩ | ⟨b, off, F', xs, rfl, rfl, he, hc⟩
  ·exact .inl ⟨by rw [h4]; rfl, h5, h6⟩
  ·exact .inr ⟨b, off, F', xs, 5, rfl, rfl, fun j u hj => Ew_in (hp b (List.mem_cons_self ..)) (hc j u hj), hel v.l (fun x hx => by
    obtain ⟨i, hi, rfl⟩ := List.getElem_of_mem hx
    intro F A c hR hp
    exact ih i hi hR hp) he (fun b hb => hp b (List.mem_cons_of_mem _ hb))⟩
theorem SlR_Y {p : Nat → Prop} {w : World} {F : List Nat} {l : List UInt8} {A : Option Addr} {c : Nat} (h : SlR w F l A c) (hp : ∀ b ∈ F, p b) : R (Y l) (Ew w p) F (.slice A l.length c) := by
 have hel : ∀ (l : List UInt8) {F : List Nat} {xs : List Value}, Elems w l F xs → Els (l.map bv) (Ew w p).dat F xs 1 := by
  intro l
  induction l with
  | nil => intro F xs h; rw [List.map_nil]; unfold Els; exact h
  | cons a l ihl =>
   intro F xs h
   obtain ⟨F1, F2, cs, ys, rfl, rfl, ⟨rfl, rfl⟩, h2⟩ := h
   rw [List.map_cons, Els_cons]
   refine ⟨[], F2, .int .u8 (a.toNat : Int), ys, rfl, rfl, ?_, rfl, fun u hu => ?_, ihl h2⟩
   ·unfold bv R; exact ⟨rfl, rfl, rfl⟩
   ·simp -implicitDefEqProofs -dsimp [Value.cells] at hu; subst hu; rfl
 obtain ⟨h1, h2, h3⟩ := h
 unfold R
 refine ⟨A, c, by rw [List.length_map], by rw [List.length_map]; exact h1, h2, ?_⟩
 rcases h3 with ⟨h4, h5, h6⟩ | ⟨b, off, F', xs, rfl, rfl, he, hc⟩
 ·exact .inl ⟨by rw [h4]; rfl, h5, h6⟩
 ·exact .inr ⟨b, off, F', xs, 1, rfl, rfl, fun j u hj => Ew_in (hp b (List.mem_cons_self ..)) (hc j u hj), hel l he⟩
theorem entCs_dat {i : Nat} : ∀ {cs : List V} {j : Nat}, dats cs = true → entCs i j cs = cs
 | [], _, _ => rfl
 | x :: cs, j, hc => by
  simp only [dats, Bool.and_eq_true] at hc
  cases x <;> first | (cases hc.1; done) | (unfold entCs; rw [entCs_dat hc.2])
theorem dats_get {ys : List V} (h : dats ys = true) (i : Nat) : dat (ys.getD i .un) = true := by
 induction ys generalizing i with
 | nil => simp -implicitDefEqProofs -dsimp [dat]
 | cons x ys ih =>
  simp only [dats, Bool.and_eq_true] at h
  cases i with
  | zero => simpa using h.1
  | succ i => simpa using ih h.2 i
theorem entT_dat {i : Nat} {y : V} (h : dat y = true) : entT i y = y := by
 cases y with
 | ag cs => unfold dat at h; exact congrArg V.ag (entCs_dat h)
 | row d e xs => exact absurd h (by simp -implicitDefEqProofs -dsimp [dat])
 | blk cs => exact absurd h (by simp -implicitDefEqProofs -dsimp [dat])
 | _ => rfl
theorem rowAt_dat {cs : List V} (h : dats cs = true) (j : Nat) : rowAt (cs.getD j .un) = .un := by
 have := dats_get h j
 cases hc : cs.getD j .un <;> first | rfl | (rw [hc] at this; cases this)
theorem inSt_dat {ys : List V} (h : dats ys = true) : (∀ i, inSt ys (.t i) = ys.getD i .un) ∧ (∀ i, inSt ys (.b i) = .un) ∧ ∀ i j, inSt ys (.r i j) = .un := by
 refine ⟨fun i => ?_, fun i => ?_, fun i j => ?_⟩
 ·simp only [inSt]; exact entT_dat (dats_get h i)
 ·have h1 := dats_get h i
  simp only [inSt]
  cases hc : ys.getD i .un <;> first | rfl | (rw [hc] at h1; cases h1)
 ·have h1 := dats_get h i
  simp only [inSt]
  cases hc : ys.getD i .un with
  | ag cs => rw [hc] at h1; unfold dat at h1; exact rowAt_dat h1 j
  | row d e xs => rw [hc] at h1; cases h1
  | blk cs => rw [hc] at h1; cases h1
  | _ => rfl
structure Gone (P : Program) (p : Nat → Prop) (w w' : World) (rs : List V) (n : Nat) (us : List Value) (vs : Array Value) : Prop where
 sim : ∃ E cb Fc, Sim ⟨P, w, (Ew w p).Φ, [], fun _ => none, n⟩ E cb Fc (inSt (List.replicate n V.un ++ rs)) w' ⟨vs ++ us.toArray, []⟩
theorem Fn_calls {P : Program} {p : Nat → Prop} {f : FuncId} {fn : Func} {c : Code} {ys rs : List V} (hf : P.funcs[f]? = some fn) (hb : fn.body = some c) (hname : (fn.name == "runtime.NumGoroutine") = false) (hFn : Fn P f ys (List.replicate ys.length V.un) rs)
  (hy : dats ys = true) {w : World} {vs : Array Value} (hsz : vs.size = ys.length) (hv : ∀ i, i < ys.length → ∃ F, R (ys.getD i .un) (Ew w p) F (vs.getD i undef)) (ht : TbK P w) :
  Calls P f vs w fun e w' => ∃ v us, e = .returned v ∧ us.length = rs.length ∧ resV v us ∧ Gone P p w w' rs ys.length us vs := by
 obtain ⟨i1, i2, i3⟩ := inSt_dat hy
 have hS : Sim ⟨P, w, (Ew w p).Φ, [], fun _ => none, ys.length⟩ (Ew w p) (fun _ => none) (fun _ => []) (inSt ys) w ⟨vs, []⟩ := by
  refine ⟨fun _ _ _ h => h, fun _ _ _ h => (Ew_cell h).2, fun _ _ _ h => .inl h, rfl, fun i => ?_, fun c => ?_, fun _ _ h => (by cases h), fun _ _ _ x hx => ?_, fun c => ?_, fun c x hx => ?_, rfl, rfl, rfl, Nat.le_refl _, fun _ _ _ => rfl, rfl, fun _ _ h => (by cases h), ht⟩
  ·rw [i1]
   by_cases hi : i < ys.length
   ·exact hv i hi
   ·have : ys.getD i .un = .un := by simp -implicitDefEqProofs -dsimp [List.getD, hi]
    rw [this]; exact ⟨[], by unfold R; rfl⟩
  ·cases c with
   | t i => exact ⟨rfl, rfl⟩
   | b i => rw [i2]; exact ⟨rfl, rfl, rfl⟩
   | r i j => rw [i3]; exact ⟨rfl, rfl, rfl⟩
  ·exact absurd hx (by simp -implicitDefEqProofs -dsimp [exc])
  ·simp -implicitDefEqProofs -dsimp [exc]
  ·exact absurd hx (by simp -implicitDefEqProofs -dsimp [exc])
 have hcall := hFn ⟨P, w, (Ew w p).Φ, [], fun _ => none, ys.length⟩ w vs rfl rfl rfl (fun i zs hz => by
  have := dats_get hy i; rw [hz] at this; cases this) ⟨_, _, _, hS⟩ hsz
 have h1 : fn.name ≠ "runtime.NumGoroutine" := by simpa using hname
 have henter : (callFunc f vs).run P w = .ok (.enter f vs) w := by simp -implicitDefEqProofs -dsimp [callFunc, hf, h1, hb]
 unfold CallR at hcall
 rw [henter] at hcall
 refine hcall.mono fun e w' h => ?_
 cases e with
 | returned v =>
  obtain ⟨us, h2, h3, h4⟩ := h
  exact ⟨v, us, rfl, h2, h3, ⟨h4⟩⟩
 | outgrown => exact h.elim
 | panicked _ => exact h.elim
theorem rep_get (n q : Nat) (rs : List V) : (List.replicate n V.un ++ rs).getD (n + q) .un = rs.getD q .un := by
 simp only [List.getD]
 rw [List.getElem?_append_right (by simp -implicitDefEqProofs -dsimp)]; simp -implicitDefEqProofs -dsimp
theorem us_get (vs : Array Value) (us : List Value) (n q : Nat) (h : vs.size = n) : (vs ++ us.toArray).getD (n + q) undef = us.getD q undef := by
 rw [Array.getD_eq_getD_getElem?, Array.getElem?_append_right (by omega), h]; simp -implicitDefEqProofs -dsimp [List.getD]
section
variable {P : Program} {p : Nat → Prop} {w w' : World} {rs : List V} {n : Nat} {us : List Value} {vs : Array Value}
theorem Gone.below (h : Gone P p w w' rs n us vs) : Below w.heap.size w w' := by
 obtain ⟨E, cb, Fc, h⟩ := h.sim
 exact ⟨h.os, h.tape, h.output, h.size, fun b hb => h.old b hb (by simp -implicitDefEqProofs -dsimp)⟩
theorem Gone.int (h : Gone P p w w' rs n us vs) (hsz : vs.size = n) {q : Nat} {c : Int} (hq : rs.getD q .un = I c) : us.getD q undef = .int .i64 c := by
 obtain ⟨E, cb, Fc, h⟩ := h.sim
 obtain ⟨F, h1⟩ := h.tmp (n + q)
 simp only [inSt] at h1
 rw [rep_get, hq, us_get _ _ _ _ hsz] at h1
 unfold entT R at h1
 exact h1.2.1
theorem Gone.data (h : Gone P p w w' rs n us vs) (hsz : vs.size = n) {q : Nat} {v : GVal} (hq : rs.getD q .un = vV v) : ∃ A c, us.getD q undef = .agg #[.int .i64 v.kind, .int .i64 v.n, .int .i64 v.x, .string v.s, .slice A v.l.length c] ∧ SS w' (fun b => (p b ∨ w.heap.size ≤ b) ∧ b < w'.heap.size) v.l A c := by
 obtain ⟨E, cb, Fc, h⟩ := h.sim
 obtain ⟨F, h1⟩ := h.tmp (n + q)
 simp only [inSt] at h1
 rw [rep_get, hq, us_get _ _ _ _ hsz, vV_eq] at h1
 obtain ⟨u, h2, h3, _⟩ := R_five.1 h1
 obtain ⟨A, c, F', rfl, _, h4, h5⟩ := R_SlR (S := fun b => (p b ∨ w.heap.size ≤ b) ∧ b < w'.heap.size) (fun b o u hu => ⟨⟨(h.grow b o u hu).elim (fun h6 => .inl (Ew_cell h6).1) (fun h6 => h6.elim .inr (fun h7 => by cases h7)), World.block_lt_of_cell? w' ⟨b, o, none⟩ (h.frz b o u hu)⟩, h.frz b o u hu⟩) v h3
 exact ⟨A, c, h2, F', h5, h4⟩
theorem Gone.tree (h : Gone P p w w' rs n us vs) (hsz : vs.size = n) {q : Nat} {v : GVal} {e : TypeId} (hq : rs.getD q .un = vF e v) : ∃ A c, us.getD q undef = .agg #[.int .i64 v.kind, .int .i64 v.n, .int .i64 v.x, .string v.s, .slice A v.l.length c] ∧ SF w.heap.size w' v.l A c := by
 obtain ⟨E, cb, Fc, h⟩ := h.sim
 obtain ⟨F, h1⟩ := h.tmp (n + q)
 simp only [inSt] at h1
 rw [rep_get, hq, us_get _ _ _ _ hsz] at h1
 have hr : inSt (List.replicate n V.un ++ rs) (.r (n + q) 4) = .row true e (v.l.map vV) := by
  simp only [inSt]
  rw [rep_get, hq]; rfl
 obtain ⟨u, h2, h3, _⟩ := R_five.1 (show R (.ag [I v.kind, I v.n, I v.x, S v.s, .own (n + q) 4]) E F (us.getD q undef) from h1)
 unfold R at h3
 obtain ⟨_, _, hρ, _⟩ := h3
 obtain ⟨h4, h5⟩ := h.freezeL [.r (n + q) 4] (fun c hc => by
  rw [List.mem_singleton] at hc; subst hc
  exact ⟨_, _, rfl, by rw [hr]; rfl⟩)
 obtain ⟨u', F', h6, h7, h8⟩ := h5 _ _ _ _ _ (List.mem_singleton_self _) hr
 obtain rfl : u = u' := Option.some.inj (hρ.symm.trans h6)
 obtain ⟨h9, h10⟩ := h8 rfl
 obtain ⟨A, c, G, rfl, hs, hlt, hS⟩ := R_SlR (S := fun _ => True) (fun b o u hu => ⟨trivial, h4.frz b o u hu⟩) v h7
 refine ⟨A, c, h2, G, hS, hs.nodup h9, fun b hb => ⟨?_, ?_⟩⟩
 ·rcases (h.new _ b (h10 b (hs.subset hb)).1).1 with h11 | h11
  ·exact h11
  ·cases h11
 ·exact (h10 b (hs.subset hb)).2
end
theorem two_us {us : List Value} {v a b : Value} (hl : us.length = 2) (hv : resV v us) (h0 : us.getD 0 undef = a) (h1 : us.getD 1 undef = b) : v = .tuple #[a, b] := by
 match us, hl with
 | [x, y], _ =>
  simp at h0 h1
  subst h0 h1
  exact hv
theorem one_us {us : List Value} {v a : Value} (hl : us.length = 1) (hv : resV v us) (h0 : us.getD 0 undef = a) : v = a := by
 match us, hl with
 | [x], _ => simp at h0; subst h0; exact hv
end Go.Proofs.YtlfblkekbcfjpaaGreatDoor
