/- From a walk to the row: whatever law of plain data answers true and leaves what was there alone. No program in sight. -/
import Derived.Test.YtblcmajhdndmfaaData
import Derived.ProofKit
import Derived.OpenShut
import Derived.JoinedCond
import Derived.Deep.Slices
import Derived.Deep.Fields
namespace Go.Proofs.Ytblcmajhdndmfaa
open Go.ChangeShapes Go.WideShapes Go.ChangeAt Go.RowKit
set_option linter.unusedVariables false
set_option maxRecDepth 100000

section
variable {H : Type} {enc : TypeId × Value → H} {P : Program}

theorem trodAll_stays (hl : laidOutB P = true) {W W' : World} (hb : Below W.heap.size W W') {sp : Nat → Bool} : ∀ {ts : List TypeId} {vs : List Value} {ds : List (DataW H)} {ps : List MemPlace},
    (∀ t, t ∈ ts → P.readableRec t = true ∧ t < P.types.size) → DataW.TrodAll enc P W 0 (fun _ => true) true ts vs ds ps → (∀ p ∈ ps, p.block < W.heap.size) → (∀ p ∈ ps, sp p.block = true) → DataW.TrodAll enc P W' 0 sp true ts vs ds ps
  | [], [], [], _, _, h, _, _ => h
  | [], _ :: _, _, _, _, h, _, _ => h.elim
  | [], [], _ :: _, _, _, h, _, _ => h.elim
  | _ :: _, [], _, _, _, h, _, _ => h.elim
  | _ :: _, _ :: _, [], _, _, h, _, _ => h.elim
  | t :: ts, v :: vs, d :: ds, ps, hr, h, hlt, hsp => by
    obtain ⟨p, q, h1, h2, rfl⟩ := h
    refine ⟨p, q, WideElems.Trod_stays hl (hr t (List.mem_cons_self ..)).1 (hr t (List.mem_cons_self ..)).2 h1 (fun x hx => hb.same (hlt x (List.mem_append_left _ hx))) (fun x hx => hsp x (List.mem_append_left _ hx)), ?_, rfl⟩
    exact trodAll_stays hl hb (fun t ht => hr t (List.mem_cons_of_mem _ ht)) h2 (fun x hx => hlt x (List.mem_append_right _ hx)) (fun x hx => hsp x (List.mem_append_right _ hx))

theorem law_post {f : Func} {s : ChangeSpec} {tb : TypeId} {W W' : World} {args : Array Value} {ds : List (DataW H)} {before : List MemPlace} (hvars : s.vars = []) (hrt : f.resultTypes = #[tb]) (htb : P.underlying tb = some .bool)
    (hl : laidOutB P = true) (hr : f.params.toList.all (fun t => P.readableRec t && decide (t < P.types.size)) = true) (hs : s.fn H ds = { results := [.lit (.bool true)], args := ds })
    (hW : DataW.Whole enc P f.params.toList s.vars false W args.toList ds [] before) (hb : Below W.heap.size W W') : s.post enc P f false true false false W args (.bool true) W' := by
  have hr' : ∀ t, t ∈ f.params.toList → P.readableRec t = true ∧ t < P.types.size := fun t ht => by
    have := List.all_eq_true.1 hr t ht
    simpa using this
  have hlt : ∀ p ∈ before, p.block < W.heap.size := fun p hp => hW.lt p hp
  have hW' := hW
  obtain ⟨p, q, hA, hV, rfl, hfz, hnd⟩ := hW
  rw [hvars] at hV
  have hq : q = [] := hV
  subst hq
  rw [List.append_nil] at hlt
  refine ⟨ds, [], p ++ [], [], p, [], hW', ?_, ?_, ?_, hb.frame _, fun h => by cases h⟩
  · rw [List.append_nil, hs, hrt]
    exact trodAll_mk1 (shut_bool htb true)
  · rw [List.append_nil, hs]
    exact trodAll_stays hl hb hr' hA hlt (fun x hx => by simpa using hlt x hx)
  · rw [List.append_nil, hs, hvars]
    exact (rfl : ([] : List MemPlace) = [])

/-- Whatever reads as data of type t reads as a Lean value. -/
def Opens (P : Program) (t : TypeId) (α : Type) [Rep α] : Prop :=
  ∀ (H : Type) (enc : TypeId × Value → H) (w : World) (n : Nat) (cs : List Value) (x : DataW H × List MemPlace), DataW.trod enc P w 0 (fun _ => true) true n t cs = some x → ∃ a : α, RA w a cs
/-- .. as far as a depth of reading. -/
def OpensTo (P : Program) (n : Nat) (t : TypeId) (α : Type) [Rep α] : Prop :=
  ∀ (H : Type) (enc : TypeId × Value → H) (w : World) (m : Nat) (cs : List Value) (x : DataW H × List MemPlace), m ≤ n → DataW.trod enc P w 0 (fun _ => true) true m t cs = some x → ∃ a : α, RA w a cs
theorem Opens.to {t : TypeId} {α : Type} [Rep α] (h : Opens P t α) (n : Nat) : OpensTo P n t α := fun H enc w m cs x _ hx => h H enc w m cs x hx
theorem Opens.of {t : TypeId} {α : Type} [Rep α] (h : ∀ n, OpensTo P n t α) : Opens P t α := fun H enc w n cs x hx => h n H enc w n cs x (Nat.le_refl _) hx
theorem OpensTo.le {t : TypeId} {α : Type} [Rep α] {n m : Nat} (h : OpensTo P n t α) (hm : m ≤ n) : OpensTo P m t α := fun H enc w k cs x hk hx => h H enc w k cs x (by omega) hx

theorem i64_of {t : TypeId} (ht : P.underlying t = some (.int .i64)) {w : World} {n : Nat} {k : Int} {x : DataW H × List MemPlace} (h : DataW.trod enc P w 0 (fun _ => true) true n t (Value.cells (.int .i64 k)).toList = some x) : I64 k := by
  obtain ⟨k', e, _, hw⟩ := DataW.trod_int ht h
  simp only [Value.cells, List.cons.injEq, and_true, Value.int.injEq, true_and] at e
  subst e
  simp [Lit.wf, IntKind.min, IntKind.max, IntKind.signed, IntKind.bits] at hw
  exact hw
theorem opens_int {t : TypeId} (ht : P.underlying t = some (.int .i64)) : Opens P t Int := by
  intro H enc w n cs x h
  obtain ⟨k, rfl, _, hw⟩ := DataW.trod_int ht h
  have hI : I64 k := by
    simp [Lit.wf, IntKind.min, IntKind.max, IntKind.signed, IntKind.bits] at hw
    exact hw
  exact ⟨k, [], ⟨rfl, rfl, hI⟩, by simp⟩
theorem opens_byte {t : TypeId} (ht : P.underlying t = some (.int .u8)) : Opens P t UInt8 := by
  intro H enc w n cs x h
  obtain ⟨k, rfl, _, hw⟩ := DataW.trod_int ht h
  have hI : 0 ≤ k ∧ k ≤ 255 := by simpa [Lit.wf, IntKind.min, IntKind.max, IntKind.signed, IntKind.bits] using hw
  refine ⟨UInt8.ofNat k.toNat, [], ⟨rfl, ?_⟩, by simp⟩
  have e : ((UInt8.ofNat k.toNat).toNat : Int) = k := by
    rw [UInt8.toNat_ofNat_of_lt' (by simp [UInt8.size]; omega)]; omega
  rw [e]
theorem opens_bool {t : TypeId} (ht : P.underlying t = some .bool) : Opens P t Bool := by
  intro H enc w n cs x h
  obtain ⟨b, rfl, _⟩ := DataW.trod_bool ht h
  exact ⟨b, [], ⟨rfl, rfl⟩, by simp⟩
theorem opens_string {t : TypeId} (ht : P.underlying t = some .string) : Opens P t ByteArray := by
  intro H enc w n cs x h
  obtain ⟨s, rfl, _, hs⟩ := DataW.trod_string ht h
  exact ⟨s, [], ⟨rfl, rfl, hs⟩, by simp⟩

/-- Elements one by one. -/
theorem elems_of {α : Type} [Rep α] {w : World} {b off : Nat} (len : Nat) (h : ∀ i, i < len → ∃ (a : α) (cs : List Value), RA w a cs ∧ CellsAt w b (off + i * Rep.wd α) cs) :
    ∃ (l : List α) (F : List Nat) (xs : List Value), l.length = len ∧ Elems w l F xs ∧ CellsAt w b off xs ∧ ∀ b, b ∈ F → b < w.heap.size := by
  induction len with
  | zero => exact ⟨[], [], [], rfl, ⟨rfl, rfl⟩, fun j v hj => by simp at hj, by simp⟩
  | succ n ih =>
    obtain ⟨l, F, xs, hl, he, hc, hF⟩ := ih fun i hi => h i (by omega)
    obtain ⟨a, cs, ⟨Fa, hr, hFa⟩, hca⟩ := h n (by omega)
    refine ⟨l ++ [a], F ++ Fa, xs ++ cs, by simp [hl], he.snoc hr, fun j v hj => ?_, fun b hb => ?_⟩
    · by_cases hlt : j < xs.length
      · exact hc j v (by rwa [List.getElem?_append_left hlt] at hj)
      · rw [List.getElem?_append_right (by omega)] at hj
        have := hca (j - xs.length) v hj
        have e : off + n * Rep.wd α + (j - xs.length) = off + j := by rw [he.len, hl] at hlt ⊢; omega
        rwa [e] at this
    · rcases List.mem_append.1 hb with hb | hb
      · exact hF b hb
      · exact hFa b hb

theorem opensTo_slice {t e : TypeId} {α : Type} [Rep α] {n : Nat} (ht : P.underlying t = some (.slice e)) (hc : P.cellsOf e = Rep.wd α) (hwd : 0 < Rep.wd α) (he : OpensTo P n e α) : OpensTo P (n + 1) t (List α) := by
  intro H enc w m cs x hm h
  have hm' : m ≠ 0 := by rintro rfl; simp [DataW.trod] at h
  rcases DataW.trod_slice ht h with ⟨rfl, _⟩ | ⟨a, len, cap, elems, rest, k, hk, rfl, _, hb, hl, hcap, hlen, hel, _, _⟩
  · exact ⟨[], [], ⟨none, 0, rfl, by simp, by simp [maxLen], .inl ⟨rfl, rfl, fun _ => rfl⟩⟩, by simp⟩
  · by_cases h0 : len = 0
    · subst h0
      exact ⟨[], [], ⟨some a, cap, rfl, by simp, hcap, .inl ⟨rfl, rfl, fun h => by cases h⟩⟩, by simp⟩
    · have hcell : ∀ i, i < len → ∃ cs', w.cells? 0 (a.add (i * P.cellsOf e)) (P.cellsOf e) = some cs' ∧ ∃ y, DataW.trod enc P w 0 (fun _ => true) true k e cs' = some y := by
        intro i hi
        obtain ⟨cs', h1, h2⟩ := Option.bind_eq_some_iff.1 ((hel i hi).trans (List.getElem?_eq_getElem (by omega)))
        exact ⟨cs', h1, _, h2⟩
      obtain ⟨b, off, rfl⟩ : ∃ b off, a = ⟨b, off, none⟩ := by
        obtain ⟨cs', h1, _⟩ := hcell 0 (by omega)
        obtain ⟨_, hlen', hat⟩ := World.cells?_some h1
        have hv := hat 0 (by rw [hc]; exact hwd)
        rw [List.getElem?_eq_getElem (by rw [hlen', hc]; exact hwd)] at hv
        have hs : a.spot = none := by
          rw [Nat.zero_mul] at hv
          simp only [Addr.add, if_pos] at hv
          unfold World.cell? at hv
          split at hv
          · split at hv
            · cases hv
            · rename_i hns
              cases hsp : a.spot with
              | none => rfl
              | some _ => rw [hsp] at hns; simp at hns
          · cases hv
        exact ⟨a.block, a.off, by cases a; simp_all⟩
      have hadd : ∀ o i, (⟨b, o, none⟩ : Addr).add i = ⟨b, o + i, none⟩ := fun o i => by
        unfold Addr.add; split
        · rename_i h; subst h; rfl
        · rfl
      have hall : ∀ i, i < len → ∃ (a : α) (cs : List Value), RA w a cs ∧ CellsAt w b (off + i * Rep.wd α) cs := by
        intro i hi
        obtain ⟨cs', h1, y, h2⟩ := hcell i hi
        obtain ⟨a, ha⟩ := he H enc w k cs' y (by omega) h2
        refine ⟨a, cs', ha, fun j v hj => ?_⟩
        obtain ⟨_, hlen', hat⟩ := World.cells?_some h1
        have hj' : j < P.cellsOf e := by rw [← hlen']; exact (List.getElem?_eq_some_iff.1 hj).1
        have := (hat j hj').trans hj
        rw [hadd, hadd, hc] at this
        exact this
      obtain ⟨l, F, xs, hll, hel', hcs, hF⟩ := elems_of len hall
      refine ⟨l, b :: F, ⟨some ⟨b, off, none⟩, cap, by rw [hll], by omega, hcap, .inr ⟨b, off, F, xs, rfl, rfl, hel', hcs⟩⟩, fun b' hb' => ?_⟩
      rcases List.mem_cons.1 hb' with rfl | hb'
      · obtain ⟨a0, cs0, hra, hc0⟩ := hall 0 (by omega)
        obtain ⟨Fa, hr, _⟩ := hra
        have hl0 : 0 < cs0.length := by rw [Rep.len hr]; exact hwd
        exact hc0.lt hl0
      · exact hF b' hb'
theorem opens_slice {t e : TypeId} {α : Type} [Rep α] (ht : P.underlying t = some (.slice e)) (hc : P.cellsOf e = Rep.wd α) (hwd : 0 < Rep.wd α) (he : Opens P e α) : Opens P t (List α) :=
  Opens.of fun n => (opensTo_slice ht hc hwd (he.to n)).le (Nat.le_succ n)

theorem struct2 {t : TypeId} {f0 f1 : Field} (ht : P.underlying t = some (.struct #[f0, f1])) (hone : Deep.oneCellFields P #[f0, f1] = true) (hC : P.cellsOf t = 2) {H : Type} {enc : TypeId × Value → H} {w : World} {m : Nat} {cs : List Value} {x : DataW H × List MemPlace}
    (h : DataW.trod enc P w 0 (fun _ => true) true m t cs = some x) : ∃ (c0 c1 : Value) (y0 y1 : DataW H × List MemPlace) (n : Nat), m = n + 1 ∧ cs = [c0, c1] ∧ DataW.trod enc P w 0 (fun _ => true) true n f0.type [c0] = some y0 ∧ DataW.trod enc P w 0 (fun _ => true) true n f1.type [c1] = some y1 := by
  obtain ⟨xs, n, hm, _, hlen, hl, hf⟩ := DataW.trod_struct ht h
  rw [hC] at hlen
  match cs, hlen with
  | [c0, c1], _ =>
    obtain ⟨o0, k0⟩ := Deep.hone_of hone 0 f0 rfl
    have g0 := hf 0 f0 rfl
    rw [o0, k0] at g0
    obtain ⟨o1, k1⟩ := Deep.hone_of hone 1 f1 rfl
    have g1 := hf 1 f1 rfl
    rw [o1, k1] at g1
    have e0 : xs[0]? = some (xs[0]'(by rw [hl]; exact (by decide : 0 < 2))) := List.getElem?_eq_getElem _
    have e1 : xs[1]? = some (xs[1]'(by rw [hl]; exact (by decide : 1 < 2))) := List.getElem?_eq_getElem _
    exact ⟨c0, c1, _, _, n, hm, rfl, g0.trans e0, g1.trans e1⟩

theorem struct3 {t : TypeId} {f0 f1 f2 : Field} (ht : P.underlying t = some (.struct #[f0, f1, f2])) (hone : Deep.oneCellFields P #[f0, f1, f2] = true) (hC : P.cellsOf t = 3) {H : Type} {enc : TypeId × Value → H} {w : World} {m : Nat} {cs : List Value} {x : DataW H × List MemPlace}
    (h : DataW.trod enc P w 0 (fun _ => true) true m t cs = some x) : ∃ (c0 c1 c2 : Value) (y0 y1 y2 : DataW H × List MemPlace) (n : Nat), m = n + 1 ∧ cs = [c0, c1, c2] ∧ DataW.trod enc P w 0 (fun _ => true) true n f0.type [c0] = some y0 ∧ DataW.trod enc P w 0 (fun _ => true) true n f1.type [c1] = some y1 ∧ DataW.trod enc P w 0 (fun _ => true) true n f2.type [c2] = some y2 := by
  obtain ⟨xs, n, hm, _, hlen, hl, hf⟩ := DataW.trod_struct ht h
  rw [hC] at hlen
  match cs, hlen with
  | [c0, c1, c2], _ =>
    obtain ⟨o0, k0⟩ := Deep.hone_of hone 0 f0 rfl
    have g0 := hf 0 f0 rfl
    rw [o0, k0] at g0
    obtain ⟨o1, k1⟩ := Deep.hone_of hone 1 f1 rfl
    have g1 := hf 1 f1 rfl
    rw [o1, k1] at g1
    obtain ⟨o2, k2⟩ := Deep.hone_of hone 2 f2 rfl
    have g2 := hf 2 f2 rfl
    rw [o2, k2] at g2
    have e0 : xs[0]? = some (xs[0]'(by rw [hl]; exact (by decide : 0 < 3))) := List.getElem?_eq_getElem _
    have e1 : xs[1]? = some (xs[1]'(by rw [hl]; exact (by decide : 1 < 3))) := List.getElem?_eq_getElem _
    have e2 : xs[2]? = some (xs[2]'(by rw [hl]; exact (by decide : 2 < 3))) := List.getElem?_eq_getElem _
    exact ⟨c0, c1, c2, _, _, _, n, hm, rfl, g0.trans e0, g1.trans e1, g2.trans e2⟩

theorem struct5 {t : TypeId} {f0 f1 f2 f3 f4 : Field} (ht : P.underlying t = some (.struct #[f0, f1, f2, f3, f4])) (hone : Deep.oneCellFields P #[f0, f1, f2, f3, f4] = true) (hC : P.cellsOf t = 5) {H : Type} {enc : TypeId × Value → H} {w : World} {m : Nat} {cs : List Value} {x : DataW H × List MemPlace}
    (h : DataW.trod enc P w 0 (fun _ => true) true m t cs = some x) : ∃ (c0 c1 c2 c3 c4 : Value) (y0 y1 y2 y3 y4 : DataW H × List MemPlace) (n : Nat), m = n + 1 ∧ cs = [c0, c1, c2, c3, c4] ∧ DataW.trod enc P w 0 (fun _ => true) true n f0.type [c0] = some y0 ∧ DataW.trod enc P w 0 (fun _ => true) true n f1.type [c1] = some y1 ∧ DataW.trod enc P w 0 (fun _ => true) true n f2.type [c2] = some y2 ∧ DataW.trod enc P w 0 (fun _ => true) true n f3.type [c3] = some y3 ∧ DataW.trod enc P w 0 (fun _ => true) true n f4.type [c4] = some y4 := by
  obtain ⟨xs, n, hm, _, hlen, hl, hf⟩ := DataW.trod_struct ht h
  rw [hC] at hlen
  match cs, hlen with
  | [c0, c1, c2, c3, c4], _ =>
    obtain ⟨o0, k0⟩ := Deep.hone_of hone 0 f0 rfl
    have g0 := hf 0 f0 rfl
    rw [o0, k0] at g0
    obtain ⟨o1, k1⟩ := Deep.hone_of hone 1 f1 rfl
    have g1 := hf 1 f1 rfl
    rw [o1, k1] at g1
    obtain ⟨o2, k2⟩ := Deep.hone_of hone 2 f2 rfl
    have g2 := hf 2 f2 rfl
    rw [o2, k2] at g2
    obtain ⟨o3, k3⟩ := Deep.hone_of hone 3 f3 rfl
    have g3 := hf 3 f3 rfl
    rw [o3, k3] at g3
    obtain ⟨o4, k4⟩ := Deep.hone_of hone 4 f4 rfl
    have g4 := hf 4 f4 rfl
    rw [o4, k4] at g4
    have e0 : xs[0]? = some (xs[0]'(by rw [hl]; exact (by decide : 0 < 5))) := List.getElem?_eq_getElem _
    have e1 : xs[1]? = some (xs[1]'(by rw [hl]; exact (by decide : 1 < 5))) := List.getElem?_eq_getElem _
    have e2 : xs[2]? = some (xs[2]'(by rw [hl]; exact (by decide : 2 < 5))) := List.getElem?_eq_getElem _
    have e3 : xs[3]? = some (xs[3]'(by rw [hl]; exact (by decide : 3 < 5))) := List.getElem?_eq_getElem _
    have e4 : xs[4]? = some (xs[4]'(by rw [hl]; exact (by decide : 4 < 5))) := List.getElem?_eq_getElem _
    exact ⟨c0, c1, c2, c3, c4, _, _, _, _, _, n, hm, rfl, g0.trans e0, g1.trans e1, g2.trans e2, g3.trans e3, g4.trans e4⟩

theorem opens_step {t : TypeId} {f0 f1 : Field} (ht : P.underlying t = some (.struct #[f0, f1])) (hone : Deep.oneCellFields P #[f0, f1] = true) (hC : P.cellsOf t = 2) (h0 : P.underlying f0.type = some (.int .i64)) (h1 : P.underlying f1.type = some .bool) : Opens P t GStep := by
  intro H enc w m cs x h
  obtain ⟨c0, c1, y0, y1, n, _, rfl, g0, g1⟩ := struct2 ht hone hC h
  obtain ⟨a, F0, ⟨rfl, e0, hI⟩, _⟩ := opens_int h0 H enc w n _ _ g0
  obtain ⟨b, F1, ⟨rfl, e1⟩, _⟩ := opens_bool h1 H enc w n _ _ g1
  simp only [List.cons.injEq, and_true] at e0 e1
  subst e0 e1
  exact ⟨⟨a, b⟩, [], ⟨rfl, rfl, hI⟩, by simp⟩

theorem opens_loss {t : TypeId} {f0 f1 : Field} (ht : P.underlying t = some (.struct #[f0, f1])) (hone : Deep.oneCellFields P #[f0, f1] = true) (hC : P.cellsOf t = 2) (h0 : P.underlying f0.type = some (.int .i64)) (h1 : Opens P f1.type (List GStep)) : Opens P t GLoss := by
  intro H enc w m cs x h
  obtain ⟨c0, c1, y0, y1, n, _, rfl, g0, g1⟩ := struct2 ht hone hC h
  obtain ⟨a, F0, ⟨rfl, e0, hI⟩, _⟩ := opens_int h0 H enc w n _ _ g0
  obtain ⟨p, hp⟩ := h1 H enc w n _ _ g1
  obtain ⟨A, c, e1, hs⟩ := hp.sa
  simp only [List.cons.injEq, and_true] at e0 e1
  subst e0 e1
  exact ⟨⟨a, p⟩, RA.loss hI hs⟩

theorem opens_out {t : TypeId} {f0 f1 f2 : Field} (ht : P.underlying t = some (.struct #[f0, f1, f2])) (hone : Deep.oneCellFields P #[f0, f1, f2] = true) (hC : P.cellsOf t = 3) (h0 : Opens P f0.type (List UInt8)) (h1 : Opens P f1.type (List GLoss)) (h2 : P.underlying f2.type = some (.int .i64)) : Opens P t GOut := by
  intro H enc w m cs x h
  obtain ⟨c0, c1, c2, y0, y1, y2, n, _, rfl, g0, g1, g2⟩ := struct3 ht hone hC h
  obtain ⟨a, F0, ⟨rfl, e2, hI⟩, _⟩ := opens_int h2 H enc w n _ _ g2
  obtain ⟨b, hb⟩ := h0 H enc w n _ _ g0
  obtain ⟨l, hl⟩ := h1 H enc w n _ _ g1
  obtain ⟨A, c, e0, F1, hs, hF1⟩ := hb.sa
  obtain ⟨A', c', e1, F2, hs', hF2⟩ := hl.sa
  simp only [List.cons.injEq, and_true] at e0 e1 e2
  subst e0 e1 e2
  refine ⟨⟨b, l, a⟩, F1 ++ F2, ⟨A, c, A', c', F1, F2, rfl, rfl, hI, hs, hs'⟩, fun b hb => ?_⟩
  rcases List.mem_append.1 hb with hb | hb
  · exact hF1 b hb
  · exact hF2 b hb
end
end Go.Proofs.Ytblcmajhdndmfaa
