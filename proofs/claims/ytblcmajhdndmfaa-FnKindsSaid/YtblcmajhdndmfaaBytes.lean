/- Bytes as strings. No program in sight. -/
import Derived.Test.YtblcmajhdndmfaaData
import Derived.Laws.BytesArg
import Derived.Laws.Strings
namespace Go.Proofs.Ytblcmajhdndmfaa
open Go.RowKit
set_option linter.unusedVariables false
set_option maxRecDepth 100000

def strOf (l : List UInt8) : ByteArray := ⟨l.toArray⟩
theorem strOf_inj {a b : List UInt8} : strOf a = strOf b ↔ a = b := by
  unfold strOf
  constructor
  · intro h
    have := congrArg (fun s : ByteArray => s.data.toList) h
    simpa using this
  · rintro rfl; rfl
theorem strOf_toList (l : List UInt8) : (strOf l).toList = l := by rw [ByteArray.toList_eq]; rfl
theorem strOf_data (s : ByteArray) : strOf s.data.toList = s := rfl
theorem strOf_size (l : List UInt8) : (strOf l).size = l.length := by simp [strOf, ByteArray.size]

theorem SA.bytes_cells {w : World} {l : List UInt8} {A : Option Addr} {c : Nat} (h : SA w l A c) : (A = none ∧ l = []) ∨ ∃ a, A = some a ∧ ∀ j v, (l.map fun b => Value.int .u8 (b.toNat : Int))[j]? = some v → w.cell? (a.add j) = some v := by
  have h' := h
  obtain ⟨F, ⟨h1, h2, h3⟩, hF⟩ := h
  rcases h3 with ⟨rfl, _⟩ | ⟨b, off, F', xs, rfl, rfl, he, hc⟩
  · cases A with
    | none => exact .inl ⟨rfl, rfl⟩
    | some a => exact .inr ⟨a, rfl, fun j v hj => by simp at hj⟩
  · refine .inr ⟨_, rfl, fun j v hj => ?_⟩
    have hjl : j < l.length := by
      have := (List.getElem?_eq_some_iff.1 hj).1
      simpa using this
    have hadd : (⟨b, off, none⟩ : Addr).add j = ⟨b, off + j, none⟩ := by
      unfold Addr.add; split
      · rename_i h0; subst h0; rfl
      · rfl
    obtain ⟨b', off', hA, _, hcell⟩ := h'.byte_at hjl
    injection hA with hA
    injection hA with e1 e2
    subst e1 e2
    rw [hadd, hcell]
    simp [List.getElem?_eq_getElem hjl] at hj
    rw [hj]

theorem run_str_of_bytes {P : Program} {src dst e : TypeId} (hs : P.underlying src = some (.slice e)) (he : P.underlying e = some (.int .u8)) (hd : P.underlying dst = some .string) {w : World} {l : List UInt8} {A : Option Addr} {c : Nat} (h : SA w l A c) :
    (convert src dst (.slice A l.length c)).run P w = .ok (.string (strOf l)) w := by
  rcases h.bytes_cells with ⟨rfl, rfl⟩ | ⟨a, rfl, hc⟩
  · exact run_convert_bytes_nil w src e hs he _ _ dst hd
  · have hl := run_loadCells_list (P := P) w a (l.map fun b => Value.int .u8 (b.toNat : Int)) hc
    have hl' : (loadCells a l.length).run P w = .ok ((l.map fun b => (b.toNat : Int)).map (Value.int .u8)).toArray w := by
      simpa [List.map_map, Function.comp_def] using hl
    rw [run_convert_bytes_string w src dst e _ _ c hs he hd, run_bytesToString w _ l.length c _ hl', foldl_push_bytes]
    simp [strOf, ByteArray.empty, ByteArray.emptyWithCapacity, List.map_map, Function.comp_def]
    rfl

theorem str_eq {a b : ByteArray} : (a.toList == b.toList) = decide (a = b) := by
  rw [ByteArray.toList_eq, ByteArray.toList_eq, Bool.eq_iff_iff]
  simp only [beq_iff_eq, decide_eq_true_eq]
  constructor
  · intro h
    obtain ⟨⟨a⟩⟩ := a
    obtain ⟨⟨b⟩⟩ := b
    simp at h
    rw [h]
  · rintro rfl; rfl
end Go.Proofs.Ytblcmajhdndmfaa
