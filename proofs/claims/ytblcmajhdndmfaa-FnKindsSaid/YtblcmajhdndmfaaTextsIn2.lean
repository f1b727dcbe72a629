/- Contracts: the texts of a tree, in the program. -/
import Derived.Test.YtblcmajhdndmfaaTextsIn
import Derived.Test.YtblcmajhdndmfaaEvery
namespace Go.Proofs.Ytblcmajhdndmfaa
open Go.RowKit
set_option linter.unusedVariables false
set_option maxRecDepth 100000

theorem elems_plain {α : Type} [Rep α] (hP : ∀ w F (a : α) cs, Rep.rp w F a cs → F = []) {w : World} : ∀ (l : List α) (F : List Nat) (xs : List Value), Elems w l F xs → F = []
  | [], _, _, h => h.1
  | a :: l, F, xs, ⟨F1, F2, cs, zs, h0, _, h1, h2⟩ => by rw [h0, hP _ _ _ _ h1, elems_plain hP l _ _ h2]; rfl
/-- A store beside a row of elements without blocks. -/
theorem OwnF.setP {α : Type} [Rep α] (hP : ∀ w F (a : α) cs, Rep.rp w F a cs → F = []) {w : World} {base : Nat} {t : TypeId} {v : Value} {l : List α} (h : OwnF w base t v l) {p : Addr} (hp : v.ownBlock ≠ some p.block) (u : Value) : OwnF (w.setCell p u) base t v l := by
  obtain ⟨F, h1, h2⟩ := h
  obtain ⟨xs, h3, h4, h5⟩ := h1
  have hF := elems_plain hP l F xs h4
  subst hF
  refine ⟨[], ⟨xs, ?_, h4.keep (by simp), by simp⟩, Fresh.nil _ _⟩
  obtain ⟨h6, h7⟩ := h3
  refine ⟨h6, ?_⟩
  rcases h7 with h7 | ⟨g, cap, cur, rfl, hb, hh, h8, h9, h10, h11⟩
  · exact .inl h7
  · exact .inr ⟨g, cap, cur, rfl, hb, (Below.heap_setCell w p u g (fun e => hp (by rw [← e]; rfl))).trans hh, h8, h9, h10, h11⟩

/-- A variable that holds a row of the call's own. -/
def BoxI {α : Type} [Rep α] (tS tE : TypeId) (base q : Nat) (acc : List α) (own : List Nat) (w : World) : Prop :=
  ∃ rv, Blk w q tS #[rv] ∧ OwnF w base tE rv acc ∧ rv.ownBlock ≠ some q ∧ own = q :: rv.ownBlock.toList ∧ base ≤ q
section
variable {α : Type} [Rep α] {tS tE : TypeId} {base q : Nat}
theorem BoxI.keep {acc : List α} {own : List Nat} {w w' : World} (h : BoxI tS tE base q acc own w) (hb : Below w.heap.size w w') : BoxI tS tE base q acc own w' :=
  let ⟨rv, h1, h2, h3, h4, h5⟩ := h; ⟨rv, h1.below hb, h2.below hb, h3, h4, h5⟩
theorem BoxI.lt {acc : List α} {own : List Nat} {w : World} (h : BoxI tS tE base q acc own w) : ∀ b, b ∈ own → base ≤ b ∧ b < w.heap.size := by
  obtain ⟨rv, h1, h2, h3, rfl, h5⟩ := h
  intro b hb
  rcases List.mem_cons.1 hb with rfl | hb
  · exact ⟨h5, h1.lt⟩
  · exact h2.own_lt b (by simpa using hb)
theorem BoxI.apart {acc : List α} {own : List Nat} {w : World} (h : BoxI tS tE base q acc own w) (b : Nat) (hb : b < base) : b < w.heap.size ∧ b ∉ own := by
  have hl := h.lt
  obtain ⟨rv, h1, h2, h3, rfl, h5⟩ := h
  exact ⟨by have := h1.lt; omega, fun hm => by have := (hl b hm).1; omega⟩
/-- Behind an append that is stored again. -/
theorem BoxI.pushed (hP : ∀ w F (a : α) cs, Rep.rp w F a cs → F = []) {acc : List α} {el : α} {w W w5 : World} {rv v5 : Value} (h1 : Blk w q tS #[rv]) (h3 : rv.ownBlock ≠ some q) (h5 : base ≤ q) (hW : Below w.heap.size w W)
    (ho : OwnF w5 base tE v5 (acc ++ [el])) (hlc : v5.ownBlock = rv.ownBlock ∨ v5.ownBlock = some W.heap.size) (hg : W.grownBy w5 rv.ownBlock) :
    ∃ own', BoxI tS tE base q (acc ++ [el]) own' (w5.setCell ⟨q, 0, none⟩ v5) ∧ (∀ b, b ∈ own' → b ∈ q :: rv.ownBlock.toList ∨ w.heap.size ≤ b) ∧ Kept (q :: rv.ownBlock.toList) w (w5.setCell ⟨q, 0, none⟩ v5) := by
  have hq := h1.lt
  have hne : v5.ownBlock ≠ some q := by
    rcases hlc with h | h
    · rw [h]; exact h3
    · rw [h]; intro e; injection e with e; have := hW.size; omega
  have hB5 : Blk w5 q tS #[rv] := (h1.below hW).grown hg h3
  refine ⟨q :: v5.ownBlock.toList, ⟨v5, hB5.set_ 0 v5, ho.setP hP hne v5, hne, rfl, h5⟩, fun b hb => ?_, ?_⟩
  · rcases List.mem_cons.1 hb with rfl | hb
    · exact .inl (by simp)
    · have hb' : v5.ownBlock = some b := by simpa using hb
      rcases hlc with h | h
      · rw [h] at hb'; exact .inl (by simp [hb'])
      · rw [h] at hb'; injection hb' with hb'; right; have := hW.size; omega
  · refine ⟨hg.os.trans hW.os, hg.tape.trans hW.tape, hg.output.trans hW.output, by have := hg.size; have := hW.size; simp [World.setCell]; omega, fun b hb hn => ?_⟩
    simp only [List.mem_cons, not_or] at hn
    rw [Below.heap_setCell _ _ _ _ hn.1, hg.block b (by have := hW.size; omega) (fun e => hn.2 (by simp [← e]))]
    exact hW.block b hb
end

def textStep (acc : List ByteArray) (x : GVal) : List ByteArray × Bool := (if x.kind == 7 then acc ++ [x.s] else acc, true)

theorem implTextsIn1_any (base q : Nat) (acc : List ByteArray) (own : List Nat) (w : World) (x : GVal) (A : Option Addr) (c : Nat) (hI : BoxI 44 9 base q acc own w) (hv : VInt x) (hB : acc.length ≤ 4194304) :
    Calls Try.prog 62 #[.agg #[.int .i64 x.kind, .int .i64 x.n, .int .i64 x.x, .string x.s, .slice A x.l.length c], .pointer (some ⟨q, 0, none⟩)] w (RetE (BoxI 44 9 base q) own w (textStep acc x).1 (.bool (textStep acc x).2)) := by
  obtain ⟨rv, h1, h2, h3, rfl, h5⟩ := hI
  have b0 := bAl (bRf w) (.cells #[.int .i64 x.kind, .int .i64 x.n, .int .i64 x.x, .string x.s, .slice A x.l.length c] 40)
  have P0 := Lib.hid ((Blk.new w 40 #[.int .i64 x.kind, .int .i64 x.n, .int .i64 x.x, .string x.s, .slice A x.l.length c]))
  have hvs := hv.2.2.2
  have hql := h1.lt
  unfold textStep
  cases hk : (x.kind == 7) with
  | false =>
    have HE := Lib.hid (And.intro h1 (And.intro h2 (And.intro h3 (And.intro h5 b0)))); clear h1 h2 h3 h5 b0 hv
    go_enter Try.func62, Try.ntmps62
    go_wp2_with fail
    go_ret
    exact RetE.up ⟨rfl, q :: rv.ownBlock.toList, ⟨rv, HE.out.1.below HE.out.2.2.2.2, HE.out.2.1.below HE.out.2.2.2.2, HE.out.2.2.1, rfl, HE.out.2.2.2.1⟩, fun b hb => .inl hb, Kept.refl _ _⟩ HE.out.2.2.2.2
  | true =>
    have hb1 : Below w.heap.size w ((w.alloc (.cells #[.int .i64 x.kind, .int .i64 x.n, .int .i64 x.x, .string x.s, .slice A x.l.length c] 40)).alloc (.cells #[.string x.s] 9)) := bAl b0 _
    have h1' := h1.below b0
    have q0 : w.cell? ⟨q, 0, none⟩ = some rv := h1.c1
    have hlit := Lib.hid (show SA ((w.alloc (.cells #[.int .i64 x.kind, .int .i64 x.n, .int .i64 x.x, .string x.s, .slice A x.l.length c] 40)).alloc (.cells #[.string x.s] 9)) [x.s] (some ⟨w.heap.size + 1, 0, none⟩) 1 from by
      have := (OwnF.lit1 (RF.str (base := w.heap.size + 1) (w := w.alloc (.cells #[.int .i64 x.kind, .int .i64 x.n, .int .i64 x.x, .string x.s, .slice A x.l.length c] 40)) x.s hvs) 9 (by simp)).sf.2.sa
      simp only [World.size_alloc] at this
      exact this)
    have HE := Lib.hid (And.intro h1 (And.intro h2 (And.intro h3 (And.intro h5 hb1)))); clear h1 h2 h3 h5 b0 hb1 hv h1'
    go_enter Try.func62, Try.ntmps62
    go_wp2_with (at_builtin; (refine app_list rfl _ _ 44 rfl (v := rv) (u := .slice (some ⟨w.heap.size + 1, 0, none⟩) 1 1) (by rfl) (by rfl) (run_app_P strPlain 44 _ base 9 (.string .empty) 16 Try.underlying44 infoString rfl (by decide) rv acc [x.s] _ _ (HE.out.2.1.below HE.out.2.2.2.2) hlit.out (by simp; omega) (by unfold maxLen; simp; omega) (by have := HE.out.2.2.2.1; simp; omega)) ?_; rintro r5 w5 ⟨ho5, hbl5, hlc5, hg5⟩; obtain ⟨A5, c5, rfl⟩ := ho5.form; have hB5 := (HE.out.1.below HE.out.2.2.2.2).grown hg5 HE.out.2.2.1; have q5 := hB5.c1; have g5 := hB5.frozen 0; have HO5 := Lib.hid (And.intro ho5 (And.intro hbl5 (And.intro hlc5 hg5))); clear ho5 hbl5 hlc5 hg5 hB5))
    go_ret
    obtain ⟨own', k1, k2, k3⟩ := BoxI.pushed strPlain HE.out.1 HE.out.2.2.1 HE.out.2.2.2.1 HE.out.2.2.2.2 HO5.out.1 HO5.out.2.2.1 HO5.out.2.2.2
    rw [List.length_append, List.length_singleton] at k1 k3
    exact ⟨rfl, own', k1, k2, k3⟩

theorem filt_pre (v : GVal) (kind : Int) : ∀ (ps : List (List GStep)) (xs : List GVal), ps.map (atG v) = xs.map some → (ps.filter fun p => kindAt v p = kind).map (fun p => zv (atG v p)) = xs.filter fun x => x.kind == kind
  | [], [], _ => rfl
  | [], x :: xs, h => by simp at h
  | p :: ps, [], h => by simp at h
  | p :: ps, x :: xs, h => by
    simp only [List.map_cons, List.cons.injEq] at h
    have ih := filt_pre v kind ps xs h.2
    have hk : kindAt v p = x.kind := by unfold kindAt; rw [h.1]
    by_cases e : x.kind = kind
    · rw [List.filter_cons_of_pos (by simp [hk, e]), List.filter_cons_of_pos (by simp [e]), List.map_cons, ih, h.1]; rfl
    · rw [List.filter_cons_of_neg (by simp [hk, e]), List.filter_cons_of_neg (by simp [e]), ih]
theorem findG_pre (v : GVal) (kind : Int) : (findG v kind).map (fun p => zv (atG v p)) = (preG v).filter fun x => x.kind == kind := filt_pre v kind _ _ (paths_pre v v [] rfl)
theorem textsG_pre (v : GVal) : textsG v = ((preG v).filter fun x => x.kind == 7).map (·.s) := by
  rw [← findG_pre, List.map_map]; rfl
theorem textFold (l : List GVal) : ∀ acc, l.foldl (fun acc (x : GVal) => if x.kind == 7 then acc ++ [x.s] else acc) acc = acc ++ (l.filter fun x => x.kind == 7).map (·.s) := by
  induction l with
  | nil => intro acc; simp
  | cons x l ih =>
    intro acc
    rw [List.foldl_cons, ih]
    cases hk : (x.kind == 7)
    · rw [List.filter_cons_of_neg (by simp [hk])]; rfl
    · rw [List.filter_cons_of_pos (p := fun x : GVal => x.kind == 7) hk]; simp
theorem textEv (v : GVal) : evG textStep v [] = (textsG v, true) := by
  rw [ev_all textStep (f := fun acc x => if x.kind == 7 then acc ++ [x.s] else acc) (fun s v => rfl) v [], textFold, textsG_pre]; rfl

theorem textCb (base q : Nat) : Cb textStep (BoxI (α := ByteArray) 44 9 base q) (fun b => b < base) 62 #[.pointer (some ⟨q, 0, none⟩)] List.length where
  keep := fun s own w w' h hb => h.keep hb
  apart := fun s own w h b hb => h.apart b hb
  lt := fun s own w h b hb => (h.lt b hb).2
  call := fun s own w x A c h hs hv hn hB => implTextsIn1_any base q s own w x A c h hv hB
  bud := fun s x => by unfold textStep; split <;> simp
  enter := fun a w => by kernel_rfl

theorem implTextsIn_any (v : GVal) (A : Option Addr) (c : Nat) (w : World) (hn : bulkVal v ≤ 1048576) (hv : VInt v) (hx : SA w v.l A c) :
    Calls Try.prog 22 #[.agg #[.int .i64 v.kind, .int .i64 v.n, .int .i64 v.x, .string v.s, .slice A v.l.length c]] w (RetS w (textsG v)) := by
  have b0 := bAl (bAl (bAl (bRf w) (.cells #[.int .i64 v.kind, .int .i64 v.n, .int .i64 v.x, .string v.s, .slice A v.l.length c] 40)) (.cells #[] 9)) (.cells #[.slice (some ⟨w.heap.size + 1, 0, none⟩) 0 0] 44)
  have hI : BoxI (α := ByteArray) 44 9 (w.heap.size + 1) (w.heap.size + 1 + 1) [] _ (((w.alloc (.cells #[.int .i64 v.kind, .int .i64 v.n, .int .i64 v.x, .string v.s, .slice A v.l.length c] 40)).alloc (.cells #[] 9)).alloc (.cells #[.slice (some ⟨w.heap.size + 1, 0, none⟩) 0 0] 44)) :=
    ⟨_, Blk.at (by simp), (OwnF.lit0' _ _ _ _ (by simp) (by omega)).alloc _, by simp [Value.ownBlock], rfl, by omega⟩
  have hE := every_any (textCb (w.heap.size + 1) (w.heap.size + 1 + 1)) v [] _ A c _ hI (SS.keep hx (fun b h => b0.block b h) (fun b h => by omega)) hv hn (by simp; omega)
  rw [textEv] at hE
  have B0 := Lib.hid b0; clear b0
  have HE := Lib.hid hE; clear hE hI hx hv
  go_enter Try.func22, Try.ntmps22
  go_wp2_with fail
  refine HE.out.mono ?_
  rintro e w1 ⟨rfl, own', ⟨rv, h1, h2, h3, rfl, h5⟩, h6, h7⟩
  have hb1 : Below w.heap.size w w1 := B0.out.trans (h7.below (by simp; omega) (fun b hb => by
    simp [Value.ownBlock] at hb; omega))
  obtain ⟨Ar, cr, rfl⟩ := h2.form
  have q0 := h1.c1
  have hq1 := h1.lt
  have HF := Lib.hid (And.intro h2 hb1); clear h1 h2 h3 h5 h6 h7 hb1
  go_wp2_with fail
  go_ret
  exact ⟨Ar, cr, rfl, HF.out.1.sf.2.mono (by omega), HF.out.2⟩
end Go.Proofs.Ytblcmajhdndmfaa
