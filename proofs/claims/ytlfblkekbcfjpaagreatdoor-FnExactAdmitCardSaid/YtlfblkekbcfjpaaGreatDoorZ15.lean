/- Part of a proof: contracts and plain laws. -/
import Derived.Test.YtlfblkekbcfjpaaGreatDoorZ13
import Derived.Test.YtlfblkekbcfjpaaGreatDoorProg
import Derived.KernelRfl
set_option linter.unusedVariables false
set_option linter.unusedSimpArgs false
namespace Go.Proofs.YtlfblkekbcfjpaaGreatDoor
open Go Go.RowKit
def valF : V → Value
 | .sc v => v
 | .ag cs => .agg (cs.map fun | .sc v => v | _ => undef).toArray
 | _ => undef
def flatV : V → Bool
 | .sc v => v.oneCell'
 | .ag cs => cs.all fun | .sc v => v.oneCell' | _ => false
 | _ => false
def flatU : V → Bool
 | .un => true
 | x => flatV x
theorem flatU_cases {x : V} (h : flatU x = true) : x = .un ∨ flatV x = true := by
 cases x <;> first | exact .inl rfl | exact .inr h
theorem Rs_flat {E : Env} : ∀ {cs : List V} {F : List Nat} {vs : List Value}, (cs.all fun | .sc v => v.oneCell' | _ => false) = true → Rs cs E F vs → vs = cs.map fun | .sc v => v | _ => undef
 | [], _, _, _, h => by unfold Rs at h; rw [h.2]; rfl
 | x :: cs, _, _, hc, h => by
  unfold Rs at h
  obtain ⟨F1, F2, v, ws, _, rfl, h1, _, h2⟩ := h
  simp only [List.all_cons, Bool.and_eq_true] at hc
  rw [Rs_flat hc.2 h2]
  cases x <;> simp at hc
  unfold R at h1
  rw [h1.2.1]; rfl
theorem Rs_mkFlat {E : Env} : ∀ {cs : List V}, (cs.all fun | .sc v => v.oneCell' | _ => false) = true → Rs cs E [] (cs.map fun | .sc v => v | _ => undef)
 | [], _ => by unfold Rs; exact ⟨rfl, rfl⟩
 | x :: cs, hc => by
  simp only [List.all_cons, Bool.and_eq_true] at hc
  unfold Rs
  cases x <;> simp at hc
  rename_i v
  exact ⟨[], [], v, _, rfl, rfl, by unfold R; exact ⟨rfl, rfl, hc.1⟩, hc.1, Rs_mkFlat (by simpa using hc.2)⟩
theorem R_flat {E : Env} {x : V} {F : List Nat} {v : Value} (hx : flatV x = true) (h : R x E F v) : v = valF x := by
 cases x <;> simp -implicitDefEqProofs -dsimp [flatV] at hx
 ·unfold R at h; exact h.2.1
 ·unfold R at h
  obtain ⟨vs, rfl, h2⟩ := h
  have := Rs_flat (by simpa using hx) h2
  show Value.agg vs = Value.agg (List.map (fun x => match x with | V.sc v => v | _ => undef) _).toArray
  rw [← this]
theorem R_mkFlat {E : Env} {x : V} (hx : flatV x = true) : R x E [] (valF x) := by
 cases x <;> simp -implicitDefEqProofs -dsimp [flatV] at hx
 ·unfold R; exact ⟨rfl, rfl, hx⟩
 ·unfold R; exact ⟨_, rfl, by simpa using Rs_mkFlat (by simpa using hx)⟩
theorem entCs_flat {i : Nat} : ∀ {cs : List V} {j : Nat}, (cs.all fun | .sc v => v.oneCell' | _ => false) = true → entCs i j cs = cs
 | [], _, _ => rfl
 | x :: cs, j, hc => by
  simp only [List.all_cons, Bool.and_eq_true] at hc
  cases x <;> simp at hc
  unfold entCs
  rw [entCs_flat (by simpa using hc.2)]
theorem entT_flat {i : Nat} {x : V} (hx : flatU x = true) : entT i x = x := by
 cases x <;> simp -implicitDefEqProofs -dsimp [flatU, flatV] at hx <;> simp only [entT]
 rw [entCs_flat (by simpa using hx)]
theorem flat_b {ys : List V} (hy : ys.all flatU = true) (i : Nat) : inSt ys (.b i) = .un ∧ ∀ j, inSt ys (.r i j) = .un := by
 have h : flatU (ys.getD i .un) = true := by
  by_cases hi : i < ys.length
  ·have : ys.getD i .un = ys[i] := by simp -implicitDefEqProofs -dsimp [List.getD, hi]
   rw [this]; exact List.all_eq_true.1 hy _ (List.getElem_mem hi)
  ·simp -implicitDefEqProofs -dsimp [List.getD, hi, flatU]
 simp only [inSt]
 generalize ys.getD i .un = y at h
 cases y <;> simp -implicitDefEqProofs -dsimp [flatU, flatV] at h <;> refine ⟨rfl, fun j => ?_⟩ <;> simp only
 rename_i cs
 unfold rowAt
 by_cases hj : j < cs.length
 ·have : cs.getD j .un = cs[j] := by simp -implicitDefEqProofs -dsimp [List.getD, hj]
  rw [this]
  have := h _ (List.getElem_mem hj)
  cases hc : cs[j] <;> simp -implicitDefEqProofs -dsimp [hc] at this <;> rfl
 ·simp -implicitDefEqProofs -dsimp [List.getD, hj]
theorem Fn_bridge {P : Program} {f : FuncId} {fn : Func} {c : Code} {ys rs : List V} (hf : P.funcs[f]? = some fn) (hb : fn.body = some c) (hname : (fn.name == "runtime.NumGoroutine") = false) (hy : ys.all flatV = true) (hr : rs.all flatU = true)
  (h : ∀ w, Tb P w → Calls P f (ys.map valF).toArray w fun e w' => ∃ v us, e = .returned v ∧ us.length = rs.length ∧ resV v us ∧ (∀ i, i < rs.length → rs.getD i .un = .un ∨ us.getD i undef = valF (rs.getD i .un)) ∧ Below w.heap.size w w') : Fn P f ys (ys.map fun _ => .un) rs := by
 intro C w vs hP hw hnp hmu hh hsz
 obtain ⟨E, cb, Fc, h0⟩ := hh
 have hyU : ys.all flatU = true := List.all_eq_true.2 fun x hx => by
  have := List.all_eq_true.1 hy x hx
  cases x <;> simp -implicitDefEqProofs -dsimp [flatU, flatV] at this ⊢ <;> assumption
 have hvs : vs = (ys.map valF).toArray := by
  apply Array.ext
  ·simp -implicitDefEqProofs -dsimp [hsz]
  ·intro i h1 h2
   have hi : i < ys.length := by omega
   obtain ⟨F, h3⟩ := h0.tmp i
   have h4 : ys.getD i .un = ys[i] := by simp -implicitDefEqProofs -dsimp [List.getD, hi]
   have h5 := List.all_eq_true.1 hy _ (List.getElem_mem hi)
   simp only [inSt] at h3
   rw [h4, entT_flat (List.all_eq_true.1 hyU _ (List.getElem_mem hi))] at h3
   have := R_flat h5 h3
   simp only [Array.getD_eq_getD_getElem?, Array.getElem?_eq_getElem h1, Option.getD_some] at this
   simp -implicitDefEqProofs -dsimp [this]
 have h1 : fn.name ≠ "runtime.NumGoroutine" := by simpa using hname
 have henter : (callFunc f vs).run P w = .ok (.enter f vs) w := by simp -implicitDefEqProofs -dsimp [callFunc, hf, h1, hb]
 unfold CallR
 rw [henter]
 have htb : Tb P w := hP ▸ h0.tab w ⟨by rw [hw]; exact Nat.le_refl _, by rw [hw], by rw [hw], by rw [hw], fun b _ _ => by rw [hw]⟩
 have hc := h w htb
 rw [← hvs] at hc
 refine hc.mono ?_
 rintro e w' ⟨v, us, rfl, hl, hv, hu, hbel⟩
 refine ⟨us, hl, hv, E, cb, Fc, ?_⟩
 have hout : (ys.map (fun _ => V.un) ++ rs).all flatU = true := by
  rw [List.all_append, Bool.and_eq_true]; exact ⟨by simp -implicitDefEqProofs -dsimp [flatU], hr⟩
 refine h0.gen [] (fun c _ hc => ?_) h0.cbt (Env.le.rfl' E) (fun _ _ h => h) (fun _ _ _ h => h) (fun b o v e => ?_) (fun _ _ _ h => .inl h) (fun b hb _ => hbel.block b hb) hbel.size hbel.os hbel.tape hbel.output (fun i => ?_) (by simp -implicitDefEqProofs -dsimp) h0.out (by simp -implicitDefEqProofs -dsimp) (by simp -implicitDefEqProofs -dsimp) (by simp -implicitDefEqProofs -dsimp) rfl (by simp -implicitDefEqProofs -dsimp)
 ·cases c with
  | t i => exact absurd rfl (hc i)
  | b i => exact ⟨(flat_b hout i).1.trans (flat_b hyU i).1.symm, rfl, rfl⟩
  | r i j => exact ⟨((flat_b hout i).2 j).trans ((flat_b hyU i).2 j).symm, rfl, rfl⟩
 ·have hlt : b < w.heap.size := by
   have h3 := h0.frz b o v e
   rcases Nat.lt_or_ge b w.heap.size with h4 | h4
   ·exact h4
   ·simp -implicitDefEqProofs -dsimp [World.cell?, Array.getElem?_eq_none h4] at h3
  exact (hbel.cell (p := ⟨b, o, none⟩) hlt).trans (h0.frz b o v e)
 ·refine ⟨[], ?_⟩
  by_cases hi : i < ys.length
  ·have : inSt (ys.map (fun _ => V.un) ++ rs) (.t i) = .un := by
    simp only [inSt, List.getD]
    rw [List.getElem?_append_left (by simpa using hi)]
    simp -implicitDefEqProofs -dsimp [hi, entT]
   rw [this]; unfold R; rfl
  ·by_cases hi2 : i < ys.length + rs.length
   ·have h3 : (ys.map (fun _ => V.un) ++ rs).getD i .un = rs.getD (i - ys.length) .un := by
     simp only [List.getD]
     rw [List.getElem?_append_right (by simp -implicitDefEqProofs -dsimp; omega)]; simp -implicitDefEqProofs -dsimp
    have h4 : (vs ++ us.toArray).getD i undef = us.getD (i - ys.length) undef := by
     rw [Array.getD_eq_getD_getElem?, Array.getElem?_append_right (by omega), hsz]; simp -implicitDefEqProofs -dsimp [List.getD]
    have hj : i - ys.length < rs.length := by omega
    have h5 : rs.getD (i - ys.length) .un = rs[i - ys.length] := by simp -implicitDefEqProofs -dsimp [List.getD, hj]
    have h6 := List.all_eq_true.1 hr _ (List.getElem_mem hj)
    simp only [inSt]
    rw [h3, h4]
    rcases hu _ hj with h7 | h7
    ·rw [h7]; unfold entT; unfold R; rfl
    ·rw [h7, h5]
     rw [entT_flat h6]
     rcases flatU_cases h6 with h8 | h8
     ·rw [h8]; unfold R; rfl
     ·exact R_mkFlat h8
   ·have : inSt (ys.map (fun _ => V.un) ++ rs) (.t i) = .un := by
     simp only [inSt, List.getD]
     rw [List.getElem?_eq_none (by simp -implicitDefEqProofs -dsimp; omega)]; rfl
    rw [this]; unfold R; rfl
end Go.Proofs.YtlfblkekbcfjpaaGreatDoor
namespace Go.Proofs.YtlfblkekbcfjpaaGreatDoor
open Go
set_option maxRecDepth 100000
@[simp] theorem ty3 : tyd Tryz.prog 3 = some ⟨.int .i64, 1, 8, [], 0, [.sc (.int .i64 0)], true⟩ := by kernel_rfl
@[simp] theorem ag3 : tAgg Tryz.prog 3 = false := by kernel_rfl
@[simp] theorem ty4 : tyd Tryz.prog 4 = some ⟨.other, 1, 1, [], 0, [.sc (.bool false)], true⟩ := by kernel_rfl
@[simp] theorem ag4 : tAgg Tryz.prog 4 = false := by kernel_rfl
@[simp] theorem ty5 : tyd Tryz.prog 5 = some ⟨.int .u8, 1, 1, [], 0, [.sc (.int .u8 0)], true⟩ := by kernel_rfl
@[simp] theorem ag5 : tAgg Tryz.prog 5 = false := by kernel_rfl
@[simp] theorem ty9 : tyd Tryz.prog 9 = some ⟨.str, 1, 16, [], 0, [.sc (.string .empty)], true⟩ := by kernel_rfl
@[simp] theorem ag9 : tAgg Tryz.prog 9 = false := by kernel_rfl
@[simp] theorem ty21 : tyd Tryz.prog 21 = some ⟨.int .i32, 1, 4, [], 0, [.sc (.int .i32 0)], true⟩ := by kernel_rfl
@[simp] theorem ag21 : tAgg Tryz.prog 21 = false := by kernel_rfl
@[simp] theorem ty22 : tyd Tryz.prog 22 = some ⟨.slice, 1, 24, [], 5, [.nil], true⟩ := by kernel_rfl
@[simp] theorem ag22 : tAgg Tryz.prog 22 = false := by kernel_rfl
@[simp] theorem ty25 : tyd Tryz.prog 25 = some ⟨.slice, 1, 24, [], 27, [.nil], true⟩ := by kernel_rfl
@[simp] theorem ag25 : tAgg Tryz.prog 25 = false := by kernel_rfl
@[simp] theorem ty27 : tyd Tryz.prog 27 = some ⟨.struct, 5, 64, [(0, false, 1), (1, false, 1), (2, false, 1), (3, false, 1), (4, false, 1)], 0, [.sc (.int .i64 0), .sc (.int .i64 0), .sc (.int .i64 0), .sc (.string .empty), .nil], false⟩ := by kernel_rfl
@[simp] theorem ag27 : tAgg Tryz.prog 27 = true := by kernel_rfl
@[simp] theorem ty31 : tyd Tryz.prog 31 = some ⟨.struct, 3, 24, [(0, false, 1), (1, false, 1), (2, false, 1)], 0, [.sc (.int .i64 0), .sc (.int .i64 0), .sc (.int .i64 0)], false⟩ := by kernel_rfl
@[simp] theorem ag31 : tAgg Tryz.prog 31 = true := by kernel_rfl
@[simp] theorem ty33 : tyd Tryz.prog 33 = some ⟨.other, 1, 8, [], 0, [.sc .nilFunc], true⟩ := by kernel_rfl
@[simp] theorem ag33 : tAgg Tryz.prog 33 = false := by kernel_rfl
@[simp] theorem ty41 : tyd Tryz.prog 41 = some ⟨.slice, 1, 24, [], 55, [.nil], true⟩ := by kernel_rfl
@[simp] theorem ag41 : tAgg Tryz.prog 41 = false := by kernel_rfl
@[simp] theorem ty55 : tyd Tryz.prog 55 = some ⟨.struct, 2, 16, [(0, false, 1), (1, false, 1)], 0, [.sc (.int .i64 0), .sc (.bool false)], false⟩ := by kernel_rfl
@[simp] theorem ag55 : tAgg Tryz.prog 55 = true := by kernel_rfl
@[simp] theorem ty65 : tyd Tryz.prog 65 = some ⟨.slice, 1, 24, [], 74, [.nil], true⟩ := by kernel_rfl
@[simp] theorem ag65 : tAgg Tryz.prog 65 = false := by kernel_rfl
@[simp] theorem ty74 : tyd Tryz.prog 74 = some ⟨.struct, 4, 40, [(0, false, 1), (1, false, 1), (2, false, 1), (3, false, 1)], 0, [.sc (.int .i64 0), .sc (.string .empty), .sc (.int .i64 0), .sc (.int .i64 0)], false⟩ := by kernel_rfl
@[simp] theorem ag74 : tAgg Tryz.prog 74 = true := by kernel_rfl
@[simp] theorem ty77 : tyd Tryz.prog 77 = some ⟨.other, 1, 8, [], 79, [.sc (.pointer none)], true⟩ := by kernel_rfl
@[simp] theorem ag77 : tAgg Tryz.prog 77 = false := by kernel_rfl
@[simp] theorem ty79 : tyd Tryz.prog 79 = some ⟨.struct, 4, 48, [(0, false, 1), (1, false, 1), (2, false, 1), (3, false, 1)], 0, [.nil, .sc (.int .i64 0), .sc (.int .i64 0), .sc (.int .i64 0)], false⟩ := by kernel_rfl
@[simp] theorem ag79 : tAgg Tryz.prog 79 = true := by kernel_rfl
@[simp] theorem ty82 : tyd Tryz.prog 82 = some ⟨.struct, 3, 24, [(0, false, 1), (1, false, 1), (2, false, 1)], 0, [.sc (.int .i64 0), .sc (.int .i64 0), .sc (.int .i64 0)], false⟩ := by kernel_rfl
@[simp] theorem ag82 : tAgg Tryz.prog 82 = true := by kernel_rfl
@[simp] theorem ty93 : tyd Tryz.prog 93 = some ⟨.struct, 2, 16, [(0, false, 1), (1, false, 1)], 0, [.sc (.int .i64 0), .sc (.int .i64 0)], false⟩ := by kernel_rfl
@[simp] theorem ag93 : tAgg Tryz.prog 93 = true := by kernel_rfl
@[simp] theorem ty97 : tyd Tryz.prog 97 = some ⟨.struct, 2, 16, [(0, false, 1), (1, false, 1)], 0, [.sc (.int .i64 0), .sc (.int .i64 0)], false⟩ := by kernel_rfl
@[simp] theorem ag97 : tAgg Tryz.prog 97 = true := by kernel_rfl
@[simp] theorem ty106 : tyd Tryz.prog 106 = some ⟨.struct, 2, 16, [(0, false, 1), (1, false, 1)], 0, [.sc (.int .i64 0), .sc (.int .i64 0)], false⟩ := by kernel_rfl
@[simp] theorem ag106 : tAgg Tryz.prog 106 = true := by kernel_rfl
@[simp] theorem ty109 : tyd Tryz.prog 109 = some ⟨.other, 1, 8, [], 0, [.sc .nilFunc], true⟩ := by kernel_rfl
@[simp] theorem ag109 : tAgg Tryz.prog 109 = false := by kernel_rfl
@[simp] theorem ty110 : tyd Tryz.prog 110 = some ⟨.other, 1, 8, [], 112, [.sc (.pointer none)], true⟩ := by kernel_rfl
@[simp] theorem ag110 : tAgg Tryz.prog 110 = false := by kernel_rfl
@[simp] theorem ty112 : tyd Tryz.prog 112 = some ⟨.struct, 3, 40, [(0, false, 1), (1, false, 1), (2, false, 1)], 0, [.nil, .sc (.int .i64 0), .sc (.int .i64 0)], false⟩ := by kernel_rfl
@[simp] theorem ag112 : tAgg Tryz.prog 112 = true := by kernel_rfl
@[simp] theorem ty113 : tyd Tryz.prog 113 = some ⟨.other, 1, 8, [], 114, [.sc (.pointer none)], true⟩ := by kernel_rfl
@[simp] theorem ag113 : tAgg Tryz.prog 113 = false := by kernel_rfl
@[simp] theorem ty114 : tyd Tryz.prog 114 = some ⟨.struct, 3, 40, [(0, false, 1), (1, false, 1), (2, false, 1)], 0, [.nil, .sc (.int .i64 0), .sc (.int .i64 0)], false⟩ := by kernel_rfl
@[simp] theorem ag114 : tAgg Tryz.prog 114 = true := by kernel_rfl
@[simp] theorem ty143 : tyd Tryz.prog 143 = some ⟨.slice, 1, 24, [], 9, [.nil], true⟩ := by kernel_rfl
@[simp] theorem ag143 : tAgg Tryz.prog 143 = false := by kernel_rfl
@[simp] theorem ty145 : tyd Tryz.prog 145 = some ⟨.other, 1, 8, [], 147, [.sc (.pointer none)], true⟩ := by kernel_rfl
@[simp] theorem ag145 : tAgg Tryz.prog 145 = false := by kernel_rfl
@[simp] theorem ty147 : tyd Tryz.prog 147 = some ⟨.struct, 4, 48, [(0, false, 1), (1, false, 1), (2, false, 1), (3, false, 1)], 0, [.nil, .sc (.int .i64 0), .sc (.int .i64 0), .sc .nilFunc], false⟩ := by kernel_rfl
@[simp] theorem ag147 : tAgg Tryz.prog 147 = true := by kernel_rfl
@[simp] theorem ty152 : tyd Tryz.prog 152 = some ⟨.slice, 1, 24, [], 3, [.nil], true⟩ := by kernel_rfl
@[simp] theorem ag152 : tAgg Tryz.prog 152 = false := by kernel_rfl
@[simp] theorem ty159 : tyd Tryz.prog 159 = some ⟨.int .u64, 1, 8, [], 0, [.sc (.int .u64 0)], true⟩ := by kernel_rfl
@[simp] theorem ag159 : tAgg Tryz.prog 159 = false := by kernel_rfl
@[simp] theorem ty175 : tyd Tryz.prog 175 = some ⟨.int .u64, 1, 8, [], 0, [.sc (.int .u64 0)], true⟩ := by kernel_rfl
@[simp] theorem ag175 : tAgg Tryz.prog 175 = false := by kernel_rfl
@[simp] theorem mixedOk : Tryz.prog.follows .mixedOrders = true := by kernel_rfl
end Go.Proofs.YtlfblkekbcfjpaaGreatDoor
