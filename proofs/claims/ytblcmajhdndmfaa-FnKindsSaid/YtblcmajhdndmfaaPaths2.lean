/- Contracts: all paths of a tree, in the program. -/
import Derived.Test.YtblcmajhdndmfaaPaths
import Derived.Lib.SliceRun
namespace Go.Proofs.Ytblcmajhdndmfaa
open Go.RowKit
set_option linter.unusedVariables false
set_option maxRecDepth 100000

theorem SA.none_nil {α : Type} [Rep α] {w : World} {l : List α} {c : Nat} (h : SA w l none c) : l = [] ∧ c = 0 := by
  obtain ⟨F, ⟨_, _, h3⟩, _⟩ := h
  rcases h3 with ⟨h4, _, h5⟩ | ⟨b, off, F', xs, hA, _⟩
  · exact ⟨h4, h5 rfl⟩
  · cases hA

theorem cloneStep_any (p : List GStep) (A : Option Addr) (c : Nat) (w : World) (hn : p.length ≤ 4194304) (hp : SA w p A c) :
    Calls Try.prog 116 #[.slice A p.length c] w fun e w' => ∃ A' c', e = .returned (.slice A' p.length c') ∧ OwnF w' w.heap.size 109 (.slice A' p.length c') p ∧ Below w.heap.size w w' := by
  have q : ∀ w, (binOp .eql 77 (.slice A p.length c) (.slice none 0 0)).run Try.prog w = .ok (.bool A.isNone) w := fun w => Lib.run_eql_slice_nil w _ _ A p.length c 0 0 Try.underlying77
  cases A with
  | none =>
    obtain ⟨rfl, rfl⟩ := hp.none_nil
    clear q
    have q : ∀ w, (binOp .eql 77 (.slice none 0 0) (.slice none 0 0)).run Try.prog w = .ok (.bool true) w := fun w => Lib.run_eql_slice_nil w _ _ none 0 0 0 0 Try.underlying77
    go_enter Try.func116, Try.ntmps116
    go_wp2_with fail
    go_ret
    exact ⟨none, 0, rfl, OwnF.nil_ _ _ _, bRf w⟩
  | some a =>
    have E := Lib.hid hp; clear hp
    go_enter Try.func116, Try.ntmps116
    go_wp2_with (at_builtin; (refine app_list rfl _ _ 77 rfl (v := .slice (some ⟨_, 0, none⟩) 0 0) (u := .slice (some a) p.length c) rfl rfl (run_app_P stepPlain 77 _ w.heap.size 109 (.agg #[.int .i64 0, .bool false]) 16 Try.underlying77 infoStep rfl (by decide) _ [] p (some a) c (OwnF.lit0' _ _ _ _ (by simp) (by omega)) (E.out.below (bAl (bRf w) _)) (by simp; omega) (by simp; unfold maxLen; omega) (by simp)) ?_; rintro v1 w1 ⟨ho, hbl, hloc, hg⟩; rw [List.nil_append] at ho; obtain ⟨A1, c1, rfl⟩ := ho.form; have HO := Lib.hid (And.intro ho hbl); clear ho hbl hloc hg))
    go_ret
    exact ⟨A1, c1, rfl, HO.out.1, (bAl (bRf w) _).trans HO.out.2⟩

theorem stepTo_any (v : GVal) (k : Nat) (A : Option Addr) (c : Nat) (w : World) (hk : k < v.l.length) (hn : v.l.length ≤ 1048576) :
    Calls Try.prog 118 #[.agg #[.int .i64 v.kind, .int .i64 v.n, .int .i64 v.x, .string v.s, .slice A v.l.length c], .int .i64 k] w fun e w' => e = .returned (.agg #[.int .i64 (stepToG v k).at_, .bool (stepToG v k).name]) ∧ Below w.heap.size w w' := by
  obtain ⟨st, hst⟩ : ∃ st, st = stepToG v k := ⟨_, rfl⟩
  rw [← hst]
  unfold stepToG at hst
  by_cases hkd : v.kind = 10
  · rw [if_pos hkd] at hst
    have e1 : (k : Int) / 2 = st.at_ := by rw [hst]; simp
    have e2 : ((k : Int) % 2 == 0) = st.name := by rw [hst]; by_cases h : k % 2 = 0 <;> simp [h] <;> omega
    have HS := Lib.hid (And.intro hst (And.intro e1 e2)); clear hst e1 e2
    go_enter Try.func118, Try.ntmps118
    go_wp2_with fail
    refine bodyPost_ret (v := .agg #[.int .i64 ((k : Int) / 2), .bool ((k : Int) % 2 == 0)]) (by simp [results, Try.results118, go_sem]) rfl ?_
    exact ⟨by rw [HS.out.2.1, HS.out.2.2], by
      refine bAl (bAl (bRf w) _) _⟩
  · rw [if_neg hkd] at hst
    have HS := Lib.hid hst; clear hst
    go_enter Try.func118, Try.ntmps118
    go_wp2_with fail
    refine bodyPost_ret (v := .agg #[.int .i64 (k : Int), .bool false]) (by simp [results, Try.results118, go_sem]) rfl ?_
    exact ⟨by rw [HS.out], by
      refine bAl (bAl (bRf w) _) _⟩

theorem grown_join {w w1 w2 : World} {r r1 : Option Nat} (h : w.grownBy w1 r) (h1 : w1.grownBy w2 r1) (hr : r1 = r ∨ ∀ g, r1 = some g → w.heap.size ≤ g) : w.grownBy w2 r := by
  refine ⟨h1.os.trans h.os, h1.tape.trans h.tape, h1.output.trans h.output, Nat.le_trans h.size h1.size, fun k hk hne => ?_⟩
  have hk1 : k < w1.heap.size := Nat.lt_of_lt_of_le hk h.size
  rw [h1.block k hk1 ?_, h.block k hk hne]
  rcases hr with rfl | hr
  · exact hne
  · intro e; have := hr k e.symm; omega
theorem below_grown {w w' : World} (h : Below w.heap.size w w') (r : Option Nat) : w.grownBy w' r := ⟨h.os, h.tape, h.output, h.size, fun k hk _ => h.block k hk⟩
theorem OwnF.apart {α : Type} [Rep α] {w w' : World} {base : Nat} {t : TypeId} {v : Value} {l : List α} (h : OwnF w base t v l) (hb : Below w.heap.size w w') : OwnF w' base t v l := h.below hb

def PathsI (v : GVal) : Prop := ∀ (p : List GStep) (A Ap : Option Addr) (c cp : Nat) (rv : Value) (l : List (List GStep)) (base : Nat) (w : World), bulkVal v ≤ 1048576 → p.length + bulkVal v ≤ 2097152 → l.length + 1 + bulkVal v ≤ 4194304 →
    SS w (fun b => b < base) v.l A c → SS w (fun b => b < w.heap.size ∧ rv.ownBlock ≠ some b) p Ap cp → OwnF w base 79 rv l → base ≤ w.heap.size →
    Calls Try.prog 104 #[.agg #[.int .i64 v.kind, .int .i64 v.n, .int .i64 v.x, .string v.s, .slice A v.l.length c], .slice Ap p.length cp, rv] w fun e w' => ∃ rv', e = .returned rv' ∧ OwnF w' base 79 rv' (l ++ pathsG p v) ∧ w.grownBy w' rv.ownBlock ∧ (rv'.ownBlock = rv.ownBlock ∨ ∀ g, rv'.ownBlock = some g → w.heap.size ≤ g)

set_option maxHeartbeats 2000000 in
theorem pathsI_ind (v : GVal) : PathsI v := by
  refine GVal.ind (p := PathsI) (fun v IH => ?_) v
  intro p A Ap c cp rv l base w hn hd hl hx hp hown hbase
  have hn1 := Nat.le_trans (bulk_len v) hn
  have IH' := Lib.hid IH; clear IH
  have E := Lib.hid (And.intro hx (And.intro hp hown)); clear hx hp hown
  have hpa : SA w p Ap cp := SS.keep E.out.2.1 (fun _ _ => rfl) (fun _ h => h.1)
  have EP := Lib.hid hpa; clear hpa
  have hle : ∀ g, rv.ownBlock = some g → base ≤ g ∧ g < w.heap.size := E.out.2.2.own_lt
  have HLE := Lib.hid hle; clear hle
  go_enter Try.func104, Try.ntmps104
  go_wp2_with (first
    | (go_at_call 116; (refine (cloneStep_any p Ap cp _ (by omega) (EP.out.below (bAl (bRf w) _))).mono ?_; rintro e w1 ⟨A1, c1, rfl, hs1, hb1⟩; have HB1 := Lib.hid (bTr (bAl (bRf w) _) hb1); have HS1 := Lib.hid (show SF w.heap.size w1 p A1 c1 from hs1.sf.2.mono (by simp)); have HC1 := Lib.hid hb1; have hz1 : w.heap.size + 1 ≤ w1.heap.size := (by have := HC1.out.size; simp at this; omega); clear hs1 hb1))
    | (at_builtin; (refine app_list rfl _ _ 54 rfl (v := rv) (u := .slice (some ⟨w1.heap.size, 0, none⟩) 1 1) (by rfl) (by rfl) (run_app1_F 54 _ base 79 (.agg #[.slice none 0 0]) 24 Try.underlying54 infoPath rfl (by decide) rv l p [.slice A1 p.length c1] w _ _ E.out.2.2 (bAl HB1.out _) ((SF.rf HS1.out).below (bAl (bRf w1) _)) (cells_at [_] rfl) (by omega) (by unfold maxLen; omega) (by omega)) ?_; rintro r1 w2 ⟨ho, hbl, hloc, hg⟩; have HO1 := Lib.hid (And.intro ho (And.intro hbl (And.intro hloc hg))); have P2 := Lib.hid (show Blk w2 w.heap.size 40 #[.int .i64 v.kind, .int .i64 v.n, .int .i64 v.x, .string v.s, .slice A v.l.length c] from Blk.grown (((Blk.new w 40 #[.int .i64 v.kind, .int .i64 v.n, .int .i64 v.x, .string v.s, .slice A v.l.length c]).below HC1.out).alloc (.cells #[.slice A1 p.length c1] 79)) hg (fun e => by have := (HLE.out _ e).2; omega)); obtain ⟨p0, p1, p2, p3, p4⟩ := P2.out.c5; clear ho hbl hloc hg)))
  have hgr : w.grownBy w2 rv.ownBlock := grown_join (below_grown (bAl HB1.out _) _) HO1.out.2.2.2 (.inl rfl)
  have HGR := Lib.hid hgr; clear hgr
  go_loopg [2, 18] v.l.length (fun gk r i wr => ∃ k : Nat, k ≤ v.l.length ∧ i = .int .i64 k ∧ gk = v.l.length - k ∧
    Blk wr w.heap.size 40 #[.int .i64 v.kind, .int .i64 v.n, .int .i64 v.x, .string v.s, .slice A v.l.length c] ∧ OwnF wr base 79 r (l ++ pathsTo p v k) ∧ w.grownBy wr rv.ownBlock ∧ (r.ownBlock = rv.ownBlock ∨ ∀ g, r.ownBlock = some g → w.heap.size + 1 ≤ g))
  case atStart =>
    refine ⟨0, by omega, rfl, by omega, P2.out, by rw [pathsTo_zero]; exact HO1.out.1, HGR.out, ?_⟩
    rcases HO1.out.2.2.1 with h | h
    · exact .inl h
    · refine .inr fun g hg => ?_
      rw [h] at hg
      injection hg with hg
      simp at hg
      omega
  case round =>
    obtain ⟨k, hk, rfl, rfl, hP0, hown, hgr, hloc⟩ := hrel
    have hz0 := hP0.lt
    have hxr : SS wr (fun b => b < base) v.l A c := SS.keep E.out.1 (fun b h => hgr.block b (by omega) (fun e => by have := (HLE.out b e.symm).1; omega)) (fun _ h => h)
    by_cases hlt : k < v.l.length
    · have hxa : SA wr v.l A c := SS.keep hxr (fun _ _ => rfl) (fun b h => by have := hgr.size; omega)
      obtain ⟨F, ⟨hl1, hl2, hl3⟩, hF⟩ := hxr
      rcases hl3 with ⟨he, _⟩ | ⟨b, off, F', xs, rfl, rfl, hel, hcs⟩
      · rw [he] at hlt; simp at hlt
      obtain ⟨F1, cs, hr, hsub, hxs⟩ := hel.get k hlt
      obtain ⟨A', c', rfl, hI3, hs3⟩ := rpVal_iff.1 hr
      have hcs' := hcs.sub hxs
      obtain ⟨k0, k1, k2, k3, k4⟩ := And.intro hcs'.c0 (And.intro hcs'.c1 (And.intro hcs'.c2 (And.intro hcs'.c3 hcs'.c4)))
      have hbb : b < base := hF b (List.mem_cons_self ..)
      have HS3 := Lib.hid (show SS wr (fun b => b < base) v.l[k].l A' c' from ⟨F1, hs3, fun b hb => hF b (List.mem_cons_of_mem _ (hsub b hb))⟩)
      clear hel hcs hcs' hr hxs hsub hs3 hF hxa
      simp only [Rep.wd] at k0 k1 k2 k3 k4
      have hpr : SS wr (fun b => b < w.heap.size ∧ rv.ownBlock ≠ some b) p Ap cp := SS.keep E.out.2.1 (fun b h => hgr.block b h.1 (fun e => h.2 e.symm)) (fun _ h => h)
      have EPr := Lib.hid (show SA wr p Ap cp from SS.keep hpr (fun _ _ => rfl) (fun b h => by have := hgr.size; have := h.1; omega))
      have HOW := Lib.hid hown
      have HG := Lib.hid (And.intro hgr hloc)
      have hsz : w.heap.size ≤ wr.heap.size := hgr.size
      clear hown hgr hloc hpr
      obtain ⟨p0, p1, p2, p3, p4⟩ := hP0.c5
      have hbk := bulk_at hlt
      have IHk := Lib.hid (IH'.out k hlt)
      have hnb : b ≠ wr.heap.size := by omega
      have HN := Lib.hid (show u2.ownBlock ≠ some w.heap.size from fun e => by
        rcases HG.out.2 with h | h
        · rw [h] at e; have := (HLE.out _ e).2; omega
        · have := h _ e; omega)
      go_wp2_with fail
      have HX0 := Lib.hid (Blk.new wr 40 #[.int .i64 v.l[k].kind, .int .i64 v.l[k].n, .int .i64 v.l[k].x, .string v.l[k].s, .slice A' v.l[k].l.length c'])
      have hIst : I64 (stepToG v k).at_ := by unfold stepToG; split <;> exact ⟨by simp <;> omega, by simp <;> omega⟩
      have hl' : (p ++ [stepToG v k]).length = p.length + 1 := by simp
      have HL := Lib.hid hl'; clear hl'
      have hw1 : (l ++ pathsTo p v k).length + 1 + bulkVal v.l[k] ≤ 4194304 := by
        have h1 := pathsTo_budget p v hlt
        rw [List.length_append]; omega
      have HW1 := Lib.hid hw1; clear hw1
      go_region_held3 (fun u => u.cell? ⟨w.heap.size, 0, none⟩ = some (.int .i64 v.kind) ∧ u.cell? ⟨w.heap.size, 1, none⟩ = some (.int .i64 v.n) ∧ u.cell? ⟨w.heap.size, 2, none⟩ = some (.int .i64 v.x) ∧ u.cell? ⟨w.heap.size, 3, none⟩ = some (.string v.s) ∧ u.cell? ⟨w.heap.size, 4, none⟩ = some (.slice (some ⟨b, off, none⟩) v.l.length c) ∧ u.cell? ⟨wr.heap.size, 0, none⟩ = some (.int .i64 v.l[k].kind) ∧ u.cell? ⟨wr.heap.size, 1, none⟩ = some (.int .i64 v.l[k].n) ∧ u.cell? ⟨wr.heap.size, 2, none⟩ = some (.int .i64 v.l[k].x) ∧ u.cell? ⟨wr.heap.size, 3, none⟩ = some (.string v.l[k].s) ∧ u.cell? ⟨wr.heap.size, 4, none⟩ = some (.slice A' v.l[k].l.length c')) (go_keep)
        (first
          | (go_at_call 116; (refine (cloneStep_any p Ap cp _ (by omega) ((EPr.out.below (bAl (bRf wr) _)).drew)).mono ?_; rintro e w3 ⟨A3, c3, rfl, hs3, hb3⟩; have HB3 := Lib.hid (show Below wr.heap.size wr w3 from bTr (bAl (bRf wr) _).drew hb3); have HP3 := Lib.hid (hP0.below HB3.out); have HX3 := Lib.hid (HX0.out.drew.below hb3); have HS4 := Lib.hid (show OwnF w3 (wr.heap.size + 1) 109 (.slice A3 p.length c3) p from hs3.mono (by simp)); have hz3 : wr.heap.size + 1 ≤ w3.heap.size := (by have := hb3.size; simp at this; omega); obtain ⟨q0, q1, q2, q3, q4⟩ := HP3.out.c5; obtain ⟨x0, x1, x2, x3, x4⟩ := HX3.out.c5; clear hs3 hb3))
          | (go_at_call 118; (refine (stepTo_any v k (some ⟨b, off, none⟩) c _ hlt hn1).mono ?_; rintro e w4 ⟨rfl, hb4⟩; have HB4 := Lib.hid (show Below w3.heap.size w3 w4 from hb4); have HP4 := Lib.hid (HP3.out.below hb4); have HX4 := Lib.hid (HX3.out.below hb4); obtain ⟨q0, q1, q2, q3, q4⟩ := HP4.out.c5; obtain ⟨x0, x1, x2, x3, x4⟩ := HX4.out.c5; clear hb4))
          | (go_at_call 104; (have hpx : SS w5 (fun b => b < w5.heap.size ∧ u2.ownBlock ≠ some b) (p ++ [stepToG v k]) A5 c5 := (by obtain ⟨F, h1, h2⟩ := HO5.out.sf.2; exact ⟨F, h1, fun b hb => ⟨(h2.2 b hb).2.lt, fun e => by have h3 := (h2.2 b hb).1; have h4 := (HOW.out.own_lt b e).2; omega⟩⟩); have hvx : SS w5 (fun b => b < base) v.l[k].l A' c' := SS.keep HS3.out (fun b h => HB5.out.block b (by omega)) (fun _ h => h); have hc6 := IHk.out (p ++ [stepToG v k]) A' A5 c' c5 u2 (l ++ pathsTo p v k) base w5 (by omega) (by rw [HL.out]; omega) HW1.out hvx hpx (HOW.out.below HB5.out) (by have := HB5.out.size; omega); rw [HL.out] at hc6; refine hc6.mono ?_; rintro e w6 ⟨r6, rfl, ho6, hg6, hl6⟩; have HO6 := Lib.hid (And.intro ho6 (And.intro hg6 hl6)); have HP6 := Lib.hid (HP5.out.grown hg6 HN.out); have HX6 := Lib.hid (HX5.out.grown hg6 (fun e => by have := (HOW.out.own_lt _ e).2; omega)); obtain ⟨q0, q1, q2, q3, q4⟩ := HP6.out.c5; obtain ⟨x0, x1, x2, x3, x4⟩ := HX6.out.c5; clear hpx hvx hc6 ho6 hg6 hl6))
          | ((apply app_step (s := .tmp 25) (x := .tmp 29) (t := 77) (v := .slice A3 p.length c3) (u := .slice (some ⟨w4.heap.size, 0, none⟩) 1 1); (try case hgd => exact rfl); (try case ho => exact rfl); (try case hs => exact rfl); (try case hx => exact rfl); (case hrun => exact run_app1_F (P := Try.prog) 77 77 (wr.heap.size + 1) 109 (.agg #[.int .i64 0, .bool false]) 16 Try.underlying77 infoStep rfl (by decide) (.slice A3 p.length c3) p (stepToG v k) [.int .i64 (stepToG v k).at_, .bool (stepToG v k).name] w3 ⟨w4.heap.size, 0, none⟩ 1 HS4.out (bAl HB4.out _) (RF.step _ hIst) (cells_at [_, _] rfl) (by omega) (by unfold maxLen; omega) hz3); rintro v5 w5 ⟨ho, hbl, _, hg⟩; obtain ⟨A5, c5, rfl⟩ := ho.form; rw [HL.out] at ho ⊢; have HB5 := Lib.hid (show Below wr.heap.size wr w5 from Below.trans (bTr HB3.out (bAl HB4.out _)) (hbl.mono (by omega))); have HP5 := Lib.hid (hP0.below HB5.out); have HX5 := Lib.hid ((HX4.out.alloc (.cells #[.int .i64 (stepToG v k).at_, .bool (stepToG v k).name] 109)).keepB hbl (by omega)); have HO5 := Lib.hid ho; obtain ⟨q0, q1, q2, q3, q4⟩ := HP5.out.c5; obtain ⟨x0, x1, x2, x3, x4⟩ := HX5.out.c5; clear ho hbl hg)))
      go_wp2_with fail
      go_roundg (v.l.length - (k + 1))
      case measure => omega
      case rel =>
        refine ⟨k + 1, by omega, by go_num, rfl, HP6.out, ?_, ?_, ?_⟩
        · rw [pathsTo_succ p v hlt, ← List.append_assoc]; exact HO6.out.1
        · exact grown_join (grown_join HG.out.1 (below_grown HB5.out _) (.inl rfl)) HO6.out.2.1 (HG.out.2.imp id fun h g hg => by have := h g hg; omega)
        · rcases HO6.out.2.2 with h | h
          · rw [h]; exact HG.out.2
          · refine .inr fun g hg => ?_
            have := h g hg
            have := HB5.out.size
            omega
    · have e : k = v.l.length := by omega
      subst e
      rw [pathsTo_all] at hown
      obtain ⟨p0, p1, p2, p3, p4⟩ := hP0.c5
      have HO := Lib.hid (And.intro hown (And.intro hgr hloc)); clear hown hgr hloc
      go_wp2_with fail
      go_ret
      exact ⟨_, rfl, HO.out.1, HO.out.2.1, HO.out.2.2.imp id fun h g hg => by have := h g hg; omega⟩
end Go.Proofs.Ytblcmajhdndmfaa
