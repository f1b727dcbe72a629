/- Contracts: the kinds of a tree's values, in the program. -/
import Derived.Test.YtblcmajhdndmfaaKindsIn
import Derived.Test.YtblcmajhdndmfaaTextsIn2
import Derived.Test.YtblcmajhdndmfaaShelf
import Derived.Sort.OwnSortedInts
import Derived.Lib.OwnBridge
namespace Go.Proofs.Ytblcmajhdndmfaa
open Go.RowKit Go.Sort
set_option linter.unusedVariables false
set_option maxRecDepth 100000

theorem elems_ints {w : World} : ∀ (l : List Int), (∀ x, x ∈ l → I64 x) → Elems w l [] (l.map (Value.int .i64))
  | [], _ => ⟨rfl, rfl⟩
  | x :: l, h => ⟨[], [], [.int .i64 x], _, rfl, rfl, ⟨rfl, rfl, h x (List.mem_cons_self ..)⟩, elems_ints l fun y hy => h y (List.mem_cons_of_mem _ hy)⟩
theorem ints_elems {w : World} : ∀ (l : List Int) (F : List Nat) (xs : List Value), Elems w l F xs → F = [] ∧ xs = l.map (Value.int .i64) ∧ ∀ x, x ∈ l → I64 x
  | [], F, xs, h => ⟨h.1, h.2, by simp⟩
  | a :: l, F, xs, ⟨F1, F2, cs, ys, h0, h1, ⟨h2, h3, h4⟩, h5⟩ => by
    obtain ⟨e1, e2, e3⟩ := ints_elems l F2 ys h5
    subst h0 h1 h2 h3 e1 e2
    refine ⟨rfl, rfl, fun x hx => ?_⟩
    rcases List.mem_cons.1 hx with rfl | hx
    · exact h4
    · exact e3 x hx
theorem OwnF.ints {w : World} {base : Nat} {t : TypeId} {v : Value} {l : List Int} (h : w.ownsRow base t 1 v l.length (l.map (Value.int .i64))) (hI : ∀ x, x ∈ l → I64 x) : OwnF w base t v l :=
  ⟨[], ⟨_, h, elems_ints l hI, by simp⟩, Fresh.nil _ _⟩
theorem OwnF.unints {w : World} {base : Nat} {t : TypeId} {v : Value} {l : List Int} (h : OwnF w base t v l) : w.ownsRow base t 1 v l.length (l.map (Value.int .i64)) ∧ ∀ x, x ∈ l → I64 x := by
  obtain ⟨F, ⟨xs, h1, h2, h3⟩, h4⟩ := h
  obtain ⟨_, e2, e3⟩ := ints_elems l F xs h2
  subst e2
  exact ⟨h1, e3⟩
theorem OwnF.holdsI {w : World} {base g c : Nat} {t : TypeId} {l : List Int} (h : OwnF w base t (.slice (some ⟨g, 0, none⟩) l.length c) l) : Holds (Value.int .i64) w g 0 l.toArray := by
  obtain ⟨⟨h1, h2⟩, _⟩ := h.unints
  rcases h2 with ⟨hv, _⟩ | ⟨g', cap, cur, hv, hb, hh, hn, hm, hs, ht⟩
  · cases hv
  · cases hv
    exact holds_of_blockI hh (by rw [Nat.mul_one] at ht; exact ht)
theorem OwnF.sorted {w : World} {base g c n : Nat} {os : Array Obj} {t : TypeId} {l ts : List Int} (h : OwnF w base t (.slice (some ⟨g, 0, none⟩) l.length c) l) (hl : ts.length = l.length) (hI : ∀ x, x ∈ ts → I64 x) :
    OwnF (grow (putRow (Value.int .i64) (Sort.ahead w n) g 0 ts.toArray) os) base t (.slice (some ⟨g, 0, none⟩) l.length c) ts := by
  obtain ⟨⟨h1, h2⟩, _⟩ := h.unints
  rcases h2 with ⟨hv, _⟩ | ⟨g', cap, cur, hv, hb, hh, hn, hm, hs, ht⟩
  · cases hv
  · cases hv
    refine OwnF.ints ?_ hI
    rw [hl]
    exact ownsRow_sortedI hl hb hh hn hm hs

theorem implKindsIn1_any (base q : Nat) (acc : List Int) (own : List Nat) (w : World) (x : GVal) (A : Option Addr) (c : Nat) (hI : BoxI 58 3 base q acc own w) (hv : VInt x) (hB : acc.length ≤ 4194304) :
    Calls Try.prog 82 #[.agg #[.int .i64 x.kind, .int .i64 x.n, .int .i64 x.x, .string x.s, .slice A x.l.length c], .pointer (some ⟨q, 0, none⟩)] w (RetE (BoxI 58 3 base q) own w (acc ++ [x.kind]) (.bool true)) := by
  obtain ⟨rv, h1, h2, h3, rfl, h5⟩ := hI
  have b0 := bAl (bRf w) (.cells #[.int .i64 x.kind, .int .i64 x.n, .int .i64 x.x, .string x.s, .slice A x.l.length c] 40)
  have hvs := hv.1
  have hql := h1.lt
  have hb1 : Below w.heap.size w ((w.alloc (.cells #[.int .i64 x.kind, .int .i64 x.n, .int .i64 x.x, .string x.s, .slice A x.l.length c] 40)).alloc (.cells #[.int .i64 x.kind] 3)) := bAl b0 _
  have q0 : w.cell? ⟨q, 0, none⟩ = some rv := h1.c1
  have hlit := Lib.hid (show SA ((w.alloc (.cells #[.int .i64 x.kind, .int .i64 x.n, .int .i64 x.x, .string x.s, .slice A x.l.length c] 40)).alloc (.cells #[.int .i64 x.kind] 3)) [x.kind] (some ⟨w.heap.size + 1, 0, none⟩) 1 from intLit (Blk.at (by simp)) hvs)
  have HE := Lib.hid (And.intro h1 (And.intro h2 (And.intro h3 (And.intro h5 hb1)))); clear h1 h2 h3 h5 b0 hb1 hv hvs
  go_enter Try.func82, Try.ntmps82
  go_wp2_with (at_builtin; (refine app_list rfl _ _ 58 rfl (v := rv) (u := .slice (some ⟨w.heap.size + 1, 0, none⟩) 1 1) (by rfl) (by rfl) (run_app_P intPlain 58 _ base 3 (.int .i64 0) 8 Try.underlying58 infoInt rfl (by decide) rv acc [x.kind] _ _ (HE.out.2.1.below HE.out.2.2.2.2) hlit.out (by simp; omega) (by unfold maxLen; simp; omega) (by have := HE.out.2.2.2.1; simp; omega)) ?_; rintro r5 w5 ⟨ho5, hbl5, hlc5, hg5⟩; obtain ⟨A5, c5, rfl⟩ := ho5.form; have hB5 := (HE.out.1.below HE.out.2.2.2.2).grown hg5 HE.out.2.2.1; have q5 := hB5.c1; have g5 := hB5.frozen 0; have HO5 := Lib.hid (And.intro ho5 (And.intro hbl5 (And.intro hlc5 hg5))); clear ho5 hbl5 hlc5 hg5 hB5))
  go_ret
  obtain ⟨own', k1, k2, k3⟩ := BoxI.pushed intPlain HE.out.1 HE.out.2.2.1 HE.out.2.2.2.1 HE.out.2.2.2.2 HO5.out.1 HO5.out.2.2.1 HO5.out.2.2.2
  rw [List.length_append, List.length_singleton] at k1 k3
  exact ⟨rfl, own', k1, k2, k3⟩

def kindStep (acc : List Int) (x : GVal) : List Int × Bool := (acc ++ [x.kind], true)
theorem kindFold (l : List GVal) : ∀ acc : List Int, l.foldl (fun acc (x : GVal) => acc ++ [x.kind]) acc = acc ++ l.map (·.kind) := by
  induction l with
  | nil => intro acc; simp
  | cons x l ih => intro acc; rw [List.foldl_cons, ih]; simp
theorem kindEv (v : GVal) : evG kindStep v [] = ((preG v).map (·.kind), true) := by
  rw [ev_all kindStep (f := fun acc x => acc ++ [x.kind]) (fun s v => rfl) v [], kindFold]; rfl
theorem kindCb (base q : Nat) : Cb kindStep (BoxI (α := Int) 58 3 base q) (fun b => b < base) 82 #[.pointer (some ⟨q, 0, none⟩)] List.length where
  keep := fun s own w w' h hb => h.keep hb
  apart := fun s own w h b hb => h.apart b hb
  lt := fun s own w h b hb => (h.lt b hb).2
  call := fun s own w x A c h hs hv hn hB => implKindsIn1_any base q s own w x A c h hv hB
  bud := fun s x => by simp [kindStep]
  enter := fun a w => by kernel_rfl
theorem kindsG_pre (v : GVal) : kindsG v = Lib.compact (((preG v).map (·.kind)).mergeSort fun x y => decide (x ≤ y)) := by
  unfold kindsG
  have h : (pathsG [] v).map (fun p => (zv (atG v p)).kind) = (preG v).map (·.kind) := by
    have := paths_pre v v [] rfl
    have h2 : ((pathsG [] v).map (atG v)).map (fun o => (zv o).kind) = ((preG v).map some).map (fun o => (zv o).kind) := by rw [this]
    rw [List.map_map, List.map_map] at h2
    exact h2
  rw [h]; exact kinds_same _

theorem sortI_asc (l : List Int) : (l.mergeSort fun x y => decide (x ≤ y)).Pairwise (· ≤ ·) :=
  (List.pairwise_mergeSort (le := fun x y : Int => decide (x ≤ y)) (fun a b c h1 h2 => by simp at *; omega) (fun a b => by simp; omega) l).imp (by simp)

set_option maxHeartbeats 1000000 in
theorem implKindsIn_any (v : GVal) (A : Option Addr) (c : Nat) (w : World) (hn : bulkVal v ≤ 1048576) (hv : VInt v) (hx : SA w v.l A c) :
    Calls Try.prog 39 #[.agg #[.int .i64 v.kind, .int .i64 v.n, .int .i64 v.x, .string v.s, .slice A v.l.length c]] w (RetS w (kindsG v)) := by
  have b0 := bAl (bAl (bAl (bRf w) (.cells #[.int .i64 v.kind, .int .i64 v.n, .int .i64 v.x, .string v.s, .slice A v.l.length c] 40)) (.cells #[] 3)) (.cells #[.slice (some ⟨w.heap.size + 1, 0, none⟩) 0 0] 58)
  have hI : BoxI (α := Int) 58 3 (w.heap.size + 1) (w.heap.size + 1 + 1) [] _ (((w.alloc (.cells #[.int .i64 v.kind, .int .i64 v.n, .int .i64 v.x, .string v.s, .slice A v.l.length c] 40)).alloc (.cells #[] 3)).alloc (.cells #[.slice (some ⟨w.heap.size + 1, 0, none⟩) 0 0] 58)) :=
    ⟨_, Blk.at (by simp), (OwnF.lit0' _ _ _ _ (by simp) (by omega)).alloc _, by simp [Value.ownBlock], rfl, by omega⟩
  have hE := every_any (kindCb (w.heap.size + 1) (w.heap.size + 1 + 1)) v [] _ A c _ hI (SS.keep hx (fun b h => b0.block b h) (fun b h => by omega)) hv hn (by simp; omega)
  rw [kindEv] at hE
  obtain ⟨ks, hks⟩ : ∃ ks, ks = (preG v).map (·.kind) := ⟨_, rfl⟩
  obtain ⟨r, hr⟩ : ∃ r, r = kindsG v := ⟨_, rfl⟩
  have hr2 := hr
  rw [kindsG_pre, ← hks] at hr2
  rw [← hks] at hE
  rw [← hr]
  have hkl : ks.length ≤ 1048577 := by rw [hks, List.length_map]; have := preG_len v; omega
  have hk0 : 0 < ks.length := by rw [hks, preG_eq]; simp
  clear hr hks
  have R := Lib.hid hr2; clear hr2
  have B0 := Lib.hid b0; clear b0
  have HE := Lib.hid hE; clear hE hI hx hv
  go_enter Try.func39, Try.ntmps39
  go_wp2_with fail
  refine HE.out.mono ?_
  rintro e w1 ⟨rfl, own', ⟨rv, h1, h2, h3, rfl, h5⟩, h6, h7⟩
  have hb1 : Below w.heap.size w w1 := B0.out.trans (h7.below (by simp; omega) (fun b hb => by
    simp [Value.ownBlock] at hb; omega))
  obtain ⟨Ar, cr, rfl⟩ := h2.form
  obtain ⟨g, rfl⟩ := h2.block hk0
  have hgl := h2.own_lt g rfl
  have hgq : g ≠ w.heap.size + 1 + 1 := fun e => h3 (by rw [e]; rfl)
  have hsl := h2.sf.2.sa.len
  have hcr1 : ks.length ≤ cr := hsl.1
  have q0 := h1.c1
  have hq1 := h1.lt
  have HF := Lib.hid (And.intro h1 (And.intro h2 (And.intro hb1 hgl))); clear h1 h2 h3 h5 h6 h7 hb1 hgl hsl
  obtain ⟨ts, hts⟩ : ∃ ts, ts = ks.mergeSort fun x y => decide (x ≤ y) := ⟨_, rfl⟩
  have hsort := Try.slices_Sort_int g 0 cr ks w1 HF.out.2.1.holdsI HF.out.2.2.2.2 (by omega)
  have htl : ts.length = ks.length := by rw [hts]; exact List.length_mergeSort ks
  have hasc : ts.Pairwise (· ≤ ·) := by rw [hts]; exact sortI_asc ks
  have htI : ∀ x, x ∈ ts → I64 x := fun x hx => HF.out.2.1.unints.2 x (by rw [hts] at hx; exact List.mem_mergeSort.1 hx)
  rw [← hts] at hsort
  have hrt : r = Lib.compact ts := by rw [R.out, hts]
  clear hts
  have HT := Lib.hid (And.intro hsort (And.intro hasc htI)); clear hsort hasc htI
  go_wp2_with fail
  refine HT.out.1.mono ?_
  rintro e w2 ⟨rfl, n, os, hw2⟩
  have ho2 : OwnF w2 (w.heap.size + 1) 3 (.slice (some ⟨g, 0, none⟩) ts.length cr) ts := by rw [hw2, htl]; exact HF.out.2.1.sorted htl HT.out.2.2
  have hg2 : w1.grownBy w2 (some g) := by rw [hw2]; exact grownBy_sortedI _
  have hB2 := HF.out.1.grown hg2 (fun e => hgq (by injection e))
  have q2 := hB2.c1
  have hb2 : Below (w.heap.size + 1) w1 w2 := (Below.refl _ w1).grown hg2 (by omega) (fun j hj => by injection hj with hj; have := HF.out.2.2.2.1; omega)
  have hcomp := Try.slices_Compact_int g 0 cr ts w2 ho2.holdsI (by omega) (by omega)
  have hcl := Lib.compact_length_le ts
  rw [← hrt] at hcomp hcl
  rw [htl] at hcomp hcl
  have HC := Lib.hid (And.intro hcomp (And.intro ho2 hb2)); clear hcomp ho2 hg2 hB2 hb2 hw2
  go_wp2_with fail
  refine HC.out.1.mono ?_
  rintro e w3 ⟨rfl, q', hw3⟩
  have ho3 : OwnF w3 (w.heap.size + 1) 3 (.slice (some ⟨g, 0, none⟩) r.length cr) r := by
    have h := Lib.ownsRow_putRow (q := q') (k := r.length) (ys := r ++ List.replicate (ks.length - r.length) 0) HC.out.2.1.unints.1 (by simp; omega) (by omega)
    rw [List.take_left, ← hw3] at h
    exact OwnF.ints h fun x hx => HT.out.2.2 x ((compact_asc HT.out.2.1).2 x |>.1 (hrt ▸ hx))
  have hb3 : Below w.heap.size w w3 := by
    rw [hw3]
    exact Lib.below_putRow (HF.out.2.2.1.trans (HC.out.2.2.mono (by omega))) (by have := HF.out.2.2.2.1; omega)
  have HD := Lib.hid (And.intro ho3 hb3); clear ho3 hb3 hw3
  go_wp2_with fail
  go_ret
  exact ⟨some ⟨g, 0, none⟩, cr, by rw [hrt]; rfl, HD.out.1.sf.2.mono (by omega), HD.out.2⟩
end Go.Proofs.Ytblcmajhdndmfaa
