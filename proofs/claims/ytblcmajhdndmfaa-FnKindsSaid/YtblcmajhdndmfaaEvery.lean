/- Contracts: a function called at every value of a tree, in the program. -/
import Derived.Test.YtblcmajhdndmfaaPre
import Derived.Test.YtblcmajhdndmfaaMark
import Derived.Test.YtblcmajhdndmfaaApp
import Derived.Test.YtblcmajhdndmfaaChecked
import Derived.StillTailTactics
import Derived.Outline
namespace Go.Proofs.Ytblcmajhdndmfaa
open Go.RowKit
set_option linter.unusedVariables false
set_option maxRecDepth 100000

/-- What a callee with a state leaves: its value, the state's memory, all else as it was. -/
def RetE {σ : Type} (I : σ → List Nat → World → Prop) (own : List Nat) (w : World) (s' : σ) (val : Value) (e : Ending) (w' : World) : Prop :=
  e = .returned val ∧ ∃ own', I s' own' w' ∧ (∀ b, b ∈ own' → b ∈ own ∨ w.heap.size ≤ b) ∧ Kept own w w'

theorem Kept.step {own own1 : List Nat} {w w1 w2 : World} (h : Kept own w w1) (h1 : ∀ b, b ∈ own1 → b ∈ own ∨ w.heap.size ≤ b) (h2 : Kept own1 w1 w2) : Kept own w w2 :=
  ⟨h2.1.trans h.1, h2.2.1.trans h.2.1, h2.2.2.1.trans h.2.2.1, Nat.le_trans h.2.2.2.1 h2.2.2.2.1, fun b hb hn => (h2.2.2.2.2 b (Nat.lt_of_lt_of_le hb h.2.2.2.1) (fun hm => by
    rcases h1 b hm with h | h
    · exact hn h
    · omega)).trans (h.2.2.2.2 b hb hn)⟩

section
variable {σ : Type} (st : σ → GVal → σ × Bool) (I : σ → List Nat → World → Prop) (S : Nat → Prop) (fn : Nat) (caps : Array Value) (B : σ → Nat)
/-- A function with a state: called at a value it does one step of it. -/
structure Cb : Prop where
  keep : ∀ s own w w', I s own w → Below w.heap.size w w' → I s own w'
  apart : ∀ s own w, I s own w → ∀ b, S b → b < w.heap.size ∧ b ∉ own
  lt : ∀ s own w, I s own w → ∀ b, b ∈ own → b < w.heap.size
  call : ∀ s own w (x : GVal) A c, I s own w → SS w S x.l A c → VInt x → bulkVal x ≤ 1048576 → B s ≤ 4194304 → Calls Try.prog fn (#[.agg #[.int .i64 x.kind, .int .i64 x.n, .int .i64 x.x, .string x.s, .slice A x.l.length c]] ++ caps) w (RetE I own w (st s x).1 (.bool (st s x).2))
  bud : ∀ s x, B (st s x).1 ≤ B s + 1
  enter : ∀ (a : Array Value) (w : World), (callFunc fn a).run Try.prog w = .ok (.enter fn a) w

variable {st I S fn caps B}
theorem RetE.up {own : List Nat} {w w1 w' : World} {s' : σ} {val : Value} {e : Ending} (h : RetE I own w1 s' val e w') (hb : Below w.heap.size w w1) : RetE I own w s' val e w' := by
  obtain ⟨rfl, own', h1, h2, h3⟩ := h
  refine ⟨rfl, own', h1, fun b hb' => ?_, (Kept.of_below hb).trans h3⟩
  rcases h2 b hb' with h | h
  · exact .inl h
  · exact .inr (Nat.le_trans hb.size h)

def EveryV (st : σ → GVal → σ × Bool) (I : σ → List Nat → World → Prop) (S : Nat → Prop) (fn : Nat) (caps : Array Value) (B : σ → Nat) (v : GVal) : Prop := ∀ (s : σ) (own : List Nat) (A : Option Addr) (c : Nat) (w : World), I s own w → SS w S v.l A c → VInt v → bulkVal v ≤ 1048576 → B s + 1 + bulkVal v ≤ 4194304 →
    Calls Try.prog 61 #[.agg #[.int .i64 v.kind, .int .i64 v.n, .int .i64 v.x, .string v.s, .slice A v.l.length c], .func (.func fn) #[] caps] w (RetE I own w (evG st v s).1 (.bool (evG st v s).2))

theorem SS.valS_at {w : World} {S : Nat → Prop} {l : List GVal} {A : Option Addr} {c : Nat} (h : SS w S l A c) {i : Nat} (hi : i < l.length) :
    ∃ b off A' c', A = some ⟨b, off, none⟩ ∧ S b ∧ VInt l[i] ∧ SS w S l[i].l A' c' ∧ w.cell? ⟨b, off + i * 5, none⟩ = some (.int .i64 l[i].kind) ∧ w.cell? ⟨b, off + i * 5 + 1, none⟩ = some (.int .i64 l[i].n) ∧
      w.cell? ⟨b, off + i * 5 + 1 + 1, none⟩ = some (.int .i64 l[i].x) ∧ w.cell? ⟨b, off + i * 5 + 1 + 1 + 1, none⟩ = some (.string l[i].s) ∧ w.cell? ⟨b, off + i * 5 + 1 + 1 + 1 + 1, none⟩ = some (.slice A' l[i].l.length c') := by
  obtain ⟨F, ⟨h1, h2, h3⟩, hF⟩ := h
  rcases h3 with ⟨rfl, _⟩ | ⟨b, off, F', xs, hA, rfl, he, hc⟩
  · simp at hi
  · obtain ⟨F1, cs, hr, hsub, hx⟩ := he.get i hi
    obtain ⟨A', c', rfl, hv, hs⟩ := rpVal_iff.1 hr
    have h0 := hc.sub hx
    exact ⟨b, off, A', c', hA, hF b (List.mem_cons_self ..), hv, ⟨F1, hs, fun b hb => hF b (List.mem_cons_of_mem _ (hsub b hb))⟩, h0.c0, h0.c1, h0.c2, h0.c3, h0.c4⟩

theorem every1_any (C : Cb st I S fn caps B) (x : GVal) (hE : EveryV st I S fn caps B x) (s : σ) (own : List Nat) (p : Nat) (A : Option Addr) (c : Nat) (w : World) (hI : I s own w) (hs : SS w S x.l A c) (hv : VInt x) (hn : bulkVal x ≤ 1048576) (hB : B s + 1 + bulkVal x ≤ 4194304) (hp : w.cell? ⟨p, 0, none⟩ = some (.func (.func fn) #[] caps)) (hpl : p < w.heap.size) :
    Calls Try.prog 98 #[.agg #[.int .i64 x.kind, .int .i64 x.n, .int .i64 x.x, .string x.s, .slice A x.l.length c], .pointer (some ⟨p, 0, none⟩)] w (RetE I own w (evG st x s).1 (.bool (!(evG st x s).2))) := by
  have b0 := bAl (bRf w) (.cells #[.int .i64 x.kind, .int .i64 x.n, .int .i64 x.x, .string x.s, .slice A x.l.length c] 40)
  have hC := hE s own A c (w.alloc (.cells #[.int .i64 x.kind, .int .i64 x.n, .int .i64 x.x, .string x.s, .slice A x.l.length c] 40)) (C.keep _ _ _ _ hI b0) (SS.keep hs (fun b h => b0.block b (C.apart _ _ _ hI b h).1) (fun b h => h)) hv hn hB
  obtain ⟨r, hr⟩ : ∃ r, r = evG st x s := ⟨_, rfl⟩
  rw [← hr] at hC ⊢
  obtain ⟨s1, b⟩ := r
  simp only at hC ⊢
  have B0 := Lib.hid b0; clear b0
  have HC := Lib.hid hC; clear hC hI hs hv hE C hr
  cases b
  all_goals
    go_enter Try.func98, Try.ntmps98
    go_wp2_with fail
    refine HC.out.mono ?_
    rintro e w1 ⟨rfl, own', h1, h2, h3⟩
    have HE := Lib.hid (And.intro h1 (And.intro h2 h3)); clear h1 h2 h3
    go_wp2_with fail
    go_ret
    exact RetE.up (w1 := w.alloc (.cells #[.int .i64 x.kind, .int .i64 x.n, .int .i64 x.x, .string x.s, .slice A x.l.length c] 40)) ⟨rfl, own', HE.out.1, HE.out.2.1, HE.out.2.2⟩ B0.out

theorem idxEvery_any (C : Cb st I S fn caps B) (l : List GVal) (hE : ∀ i (hi : i < l.length), EveryV st I S fn caps B l[i]) (s : σ) (own : List Nat) (p : Nat) (A : Option Addr) (c : Nat) (w : World) (hn : bulkVals l ≤ 1048576) (hB : B s + bulkVals l ≤ 4194304) (hI : I s own w) (hs : SS w S l A c) (hp : w.cell? ⟨p, 0, none⟩ = some (.func (.func fn) #[] caps)) (hpl : p < w.heap.size) (hpo : p ∉ own)
    (hcf : ∀ (a : Array Value) (w : World), (callFunc 98 a).run Try.prog w = .ok (.enter 98 a) w) :
    Calls Try.prog 115 #[.slice A l.length c, .func (.func 98) #[] #[.pointer (some ⟨p, 0, none⟩)]] w fun e w' => ∃ i : Int, (decide (0 ≤ i) = !(evL st l s).2) ∧ RetE I own w (evL st l s).1 (.int .i64 i) e w' := by
  have hls : l.length ≤ 9223372036854775807 := by rw [bulkVals_eq] at hn; omega
  have HH := Lib.hid (And.intro C (And.intro hE (And.intro hs (And.intro hp hpo)))); clear C hE hp hpo
  have HI := Lib.hid hI; clear hI hs
  obtain ⟨r, hr⟩ : ∃ r, r = evL st l s := ⟨_, rfl⟩
  rw [← hr]
  have R := Lib.hid hr; clear hr
  go_enter Try.func115, Try.ntmps115
  go_wp2_with fail
  go_loopg [8] l.length (fun gk i wr => ∃ (k : Nat) (sk : σ) (ownk : List Nat), k ≤ l.length ∧ i = .int .i64 k ∧ gk = l.length - k ∧ Hid (evL st (l.take k) s = (sk, true) ∧ I sk ownk wr ∧ (∀ b, b ∈ ownk → b ∈ own ∨ w.heap.size ≤ b) ∧ Kept own w wr))
  case atStart => exact ⟨0, s, own, by omega, rfl, by omega, by simp [evL], HI.out, fun b h => .inl h, Kept.refl _ _⟩
  case round =>
    obtain ⟨k, sk, ownk, hk, rfl, rfl, hT⟩ := hrel
    by_cases hlt : k < l.length
    · have hss : SS wr S l A c := SS.keep HH.out.2.2.1 (fun b h => hT.out.2.2.2.2.2.2.2 b (HH.out.1.apart _ _ _ HI.out b h).1 (HH.out.1.apart _ _ _ HI.out b h).2) (fun b h => h)
      obtain ⟨b, off, A1, c1, rfl, hb, hv, hs1, k0, k1, k2, k3, k4⟩ := hss.valS_at hlt
      have hpk : wr.cell? ⟨p, 0, none⟩ = some (.func (.func fn) #[] caps) := (World.cell?_of_block (a := ⟨p, 0, none⟩) (hT.out.2.2.2.2.2.2.2 p hpl HH.out.2.2.2.2)).trans HH.out.2.2.2.1
      have hplk : p < wr.heap.size := Nat.lt_of_lt_of_le hpl hT.out.2.2.2.2.2.2.1
      have hnk : bulkVal l[k] ≤ 1048576 := by have := le_sum_at bulkVal l hlt; rw [bulkVals_eq] at hn; omega
      have hC := every1_any HH.out.1 l[k] (HH.out.2.1 k hlt) sk ownk p A1 c1 wr hT.out.2.1 hs1 hv hnk (by have h1 := evL_bud st HH.out.1.bud (l.take k) s; rw [hT.out.1] at h1; simp only at h1; have h2 := bulk_take hlt; omega) hpk hplk
      obtain ⟨q, hq⟩ : ∃ q, q = evG st l[k] sk := ⟨_, rfl⟩
      rw [← hq] at hC
      have HC := Lib.hid hC; clear hC hss hs1 hpk
      have HQ := Lib.hid hq; clear hq
      obtain ⟨s1, bb⟩ := q
      cases bb
      all_goals
        go_wp2_with fail
        refine HC.out.mono ?_
        rintro e w1 ⟨rfl, own1, h1, h2, h3⟩
        have HE := Lib.hid (And.intro h1 (And.intro h2 h3)); clear h1 h2 h3
        simp only [Bool.not_false, Bool.not_true]
        go_wp2_with fail
      · go_ret
        have hr := evL_stop st hlt hT.out.1 HQ.out.symm
        refine ⟨k, ?_, ?_⟩
        · rw [R.out, hr]; simp
        · rw [R.out, hr]
          exact ⟨rfl, own1, HE.out.1, fun b hb => by
            rcases HE.out.2.1 b hb with h | h
            · exact hT.out.2.2.1 b h
            · exact .inr (Nat.le_trans hT.out.2.2.2.2.2.2.1 h), hT.out.2.2.2.step hT.out.2.2.1 HE.out.2.2⟩
      · go_roundg (l.length - (k + 1))
        case measure => omega
        case rel =>
          refine ⟨k + 1, s1, own1, by omega, by go_num, rfl, ?_, HE.out.1, fun b hb => ?_, hT.out.2.2.2.step hT.out.2.2.1 HE.out.2.2⟩
          · rw [List.take_succ_eq_append_getElem hlt]
            exact evL_snoc_true st hT.out.1 HQ.out.symm
          · rcases HE.out.2.1 b hb with h | h
            · exact hT.out.2.2.1 b h
            · exact .inr (Nat.le_trans hT.out.2.2.2.2.2.2.1 h)
    · have e : k = l.length := by omega
      have hr : r = (sk, true) := by rw [R.out, ← hT.out.1, e, List.take_length]
      subst hr
      go_wp2_with fail
      go_ret
      exact ⟨-1, by simp, rfl, ownk, hT.out.2.1, hT.out.2.2.1, hT.out.2.2.2⟩

theorem containsEvery_any (C : Cb st I S fn caps B) (l : List GVal) (hE : ∀ i (hi : i < l.length), EveryV st I S fn caps B l[i]) (s : σ) (own : List Nat) (p : Nat) (A : Option Addr) (c : Nat) (w : World) (hn : bulkVals l ≤ 1048576) (hB : B s + bulkVals l ≤ 4194304) (hI : I s own w) (hs : SS w S l A c) (hp : w.cell? ⟨p, 0, none⟩ = some (.func (.func fn) #[] caps)) (hpl : p < w.heap.size) (hpo : p ∉ own) :
    Calls Try.prog 97 #[.slice A l.length c, .func (.func 98) #[] #[.pointer (some ⟨p, 0, none⟩)]] w (RetE I own w (evL st l s).1 (.bool (!(evL st l s).2))) := by
  have hC := idxEvery_any C l hE s own p A c w hn hB hI hs hp hpl hpo (fun a w => by kernel_rfl)
  obtain ⟨r, hr⟩ : ∃ r, r = evL st l s := ⟨_, rfl⟩
  rw [← hr] at hC ⊢
  have HC := Lib.hid hC; clear hC hr hE C hI hs hp hpo
  go_enter Try.func97, Try.ntmps97
  go_wp2_with fail
  refine HC.out.mono ?_
  rintro e w1 ⟨i, hi, rfl, own1, h1, h2, h3⟩
  have HE := Lib.hid (And.intro hi (And.intro h1 (And.intro h2 h3))); clear hi h1 h2 h3
  go_wp2_with fail
  go_ret
  exact ⟨by rw [← HE.out.1]; rfl, own1, HE.out.2.1, HE.out.2.2.1, HE.out.2.2.2⟩

theorem every_of (C : Cb st I S fn caps B) (v : GVal) (hE : ∀ i (hi : i < v.l.length), EveryV st I S fn caps B v.l[i]) : EveryV st I S fn caps B v := by
  intro s own A c w hI hs hv hn hB
  have b0 := bAl (bAl (bRf w) (.cells #[.int .i64 v.kind, .int .i64 v.n, .int .i64 v.x, .string v.s, .slice A v.l.length c] 40)) (.cells #[.func (.func fn) #[] caps] 81)
  have P0 := Lib.hid ((Blk.new w 40 #[.int .i64 v.kind, .int .i64 v.n, .int .i64 v.x, .string v.s, .slice A v.l.length c]).alloc (.cells #[.func (.func fn) #[] caps] 81))
  have P1 := Lib.hid (Blk.at (w := w.alloc (.cells #[.int .i64 v.kind, .int .i64 v.n, .int .i64 v.x, .string v.s, .slice A v.l.length c] 40)) (g := w.heap.size + 1) (t := 81) (cs := #[.func (.func fn) #[] caps]) (by simp))
  have hs0 : SS ((w.alloc (.cells #[.int .i64 v.kind, .int .i64 v.n, .int .i64 v.x, .string v.s, .slice A v.l.length c] 40)).alloc (.cells #[.func (.func fn) #[] caps] 81)) S v.l A c := SS.keep hs (fun b h => b0.block b (C.apart _ _ _ hI b h).1) (fun b h => h)
  have hI0 := C.keep _ _ _ _ hI b0
  have hC := C.call s own _ v A c hI0 hs0 hv hn (by omega)
  have hbud := C.bud s v
  have hcf := C.enter
  have hlt := C.lt _ _ _ hI
  obtain ⟨q, hq⟩ : ∃ q, q = st s v := ⟨_, rfl⟩
  rw [← hq] at hC hbud
  obtain ⟨s1, b⟩ := q
  have HB1 : B s1 + bulkVals v.l ≤ 4194304 := by rw [bulkVal_eq] at hB; simp only at hbud; omega
  obtain ⟨r, hr⟩ : ∃ r, r = evG st v s := ⟨_, rfl⟩
  rw [← hr]
  have B0 := Lib.hid b0; clear b0
  have HC := Lib.hid hC; clear hC
  have HH := Lib.hid (And.intro C (And.intro hE (And.intro hs0 (And.intro hI0 hlt)))); clear C hE hs hs0 hI hI0 hlt
  have HN : bulkVals v.l ≤ 1048576 := by rw [bulkVal_eq] at hn; omega
  clear hv hn hB hbud
  cases b
  · have hr' : r = (s1, false) := by rw [hr]; exact evG_false st hq.symm
    subst hr'
    clear hr hq
    go_enter Try.func61, Try.ntmps61
    go_wp2_with fail
    refine HC.out.mono ?_
    rintro e w1 ⟨rfl, own1, h1, h2, h3⟩
    have HE := Lib.hid (And.intro h1 (And.intro h2 h3)); clear h1 h2 h3
    go_wp2_with fail
    go_ret
    exact RetE.up ⟨rfl, own1, HE.out.1, HE.out.2.1, HE.out.2.2⟩ B0.out
  · have hr' : r = evL st v.l s1 := by rw [hr]; exact evG_true st hq.symm
    clear hr hq
    obtain ⟨s2, b2⟩ := r
    have R := Lib.hid hr'; clear hr'
    cases b2
    all_goals
      go_enter Try.func61, Try.ntmps61
      go_wp2_with fail
      refine HC.out.mono ?_
      rintro e w1 ⟨rfl, own1, h1, h2, h3⟩
      have Q0 := (h3.2.2.2.2 w.heap.size (by simp; omega) (fun hm => by have := HH.out.2.2.2.2 _ hm; omega)).trans P0.out
      have Q1 := (h3.2.2.2.2 (w.heap.size + 1) (by simp) (fun hm => by have := HH.out.2.2.2.2 _ hm; omega)).trans P1.out
      have hq4 := (Blk.c5 Q0).2.2.2.2
      have hq1 := Blk.c1 Q1
      have hs1 : SS w1 S v.l A c := SS.keep HH.out.2.2.1 (fun b h => h3.2.2.2.2 b (HH.out.1.apart _ _ _ HH.out.2.2.2.1 b h).1 (HH.out.1.apart _ _ _ HH.out.2.2.2.1 b h).2) (fun b h => h)
      have hlt1 : w.heap.size + 1 < w1.heap.size := Blk.lt Q1
      have hC2 := containsEvery_any HH.out.1 v.l HH.out.2.1 s1 own1 (w.heap.size + 1) A c w1 HN HB1 h1 hs1 hq1 hlt1 (fun hm => by
        rcases h2 _ hm with h | h
        · have := HH.out.2.2.2.2 _ h; omega
        · simp at h; omega)
      rw [← R.out] at hC2
      have HE := Lib.hid (And.intro hC2 (And.intro h1 (And.intro h2 h3))); clear hC2 h1 h2 h3 Q0 Q1 hq1 hs1
      go_wp2_with fail
      refine HE.out.1.mono ?_
      rintro e w2 ⟨rfl, own2, h4, h5, h6⟩
      have HF := Lib.hid (And.intro h4 (And.intro h5 h6)); clear h4 h5 h6
      simp only [Bool.not_false, Bool.not_true]
      go_wp2_with fail
      go_ret
      refine RetE.up ⟨rfl, own2, HF.out.1, fun b hb => ?_, HE.out.2.2.2.step HE.out.2.2.1 HF.out.2.2⟩ B0.out
      rcases HF.out.2.1 b hb with h | h
      · exact HE.out.2.2.1 b h
      · exact .inr (Nat.le_trans HE.out.2.2.2.2.2.2.1 h)
theorem every_any (C : Cb st I S fn caps B) (v : GVal) : EveryV st I S fn caps B v := GVal.ind (p := EveryV st I S fn caps B) (fun v IH => every_of C v IH) v
end
end Go.Proofs.Ytblcmajhdndmfaa
