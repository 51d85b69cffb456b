/- Bytes as strings: conversions and comparisons. -/
import Derived.Test.YtcjflnnjieolfaaDoorSlCut
import Derived.Laws.BytesArg
import Derived.Laws.IdiomStrings
import Derived.Laws.StructEq
namespace Go.Proofs.YtcjflnnjieolfaaDoor
open Go.RowKit

theorem src_ownB {w : World} {base n : Nat} {e : TypeId} {ao : Option Addr} {cap : Nat} {bs : List UInt8} (h : w.ownsRow base e 1 (.slice ao n cap) n (bs.map u8v)) : SrcAt w ao n cap (bs.map u8v) 1 :=
  src_own h (fun u hu => by obtain ⟨x, -, rfl⟩ := List.mem_map.1 hu; rfl)
def strOf (bs : List UInt8) : ByteArray := ⟨bs.toArray⟩
theorem strOf_nums (bs : List UInt8) : strOfNums (bs.map fun b => (b.toNat : Int)) = strOf bs := by
  have h : (strOfNums (bs.map fun b => (b.toNat : Int))).data.toList = (strOf bs).data.toList := by
    rw [strOfNums_data, List.map_map]
    simp [strOf, Function.comp_def]
  exact ByteArray.ext (Array.toList_inj.1 h)
theorem strOf_inj {a b : List UInt8} (h : strOf a = strOf b) : a = b := by
  have := congrArg (fun s : ByteArray => s.data.toList) h
  simpa [strOf] using this
theorem strOf_size (bs : List UInt8) : (strOf bs).size = bs.length := by simp [strOf, ByteArray.size]
theorem strOf_append (a b : List UInt8) : strOf a ++ strOf b = strOf (a ++ b) := by
  refine ByteArray.ext ?_
  simp [strOf, ByteArray.data_append]
theorem strOf_eq (a b : List UInt8) : ((strOf a).toList == (strOf b).toList) = decide (a = b) := by
  rw [← beq_toListBytes]
  show (a.toArray == b.toArray) = decide (a = b)
  by_cases h : a = b
  · subst h; simp
  · simp [h]
theorem run_str {w : World} {bo : Option Addr} {bl bc : Nat} {bs : List UInt8} (h : SrcAt w bo bl bc (bs.map u8v) 1) :
    (convert 23 9 (.slice bo bl bc)).run Tryd.prog w = .ok (.string (strOf bs)) w := by
  have hlen := h.len
  simp at hlen
  cases bo with
  | none =>
    have h1 := (h.nil rfl).1
    have : bs = [] := by cases bs with
      | nil => rfl
      | cons x xs => simp at hlen; omega
    subst this
    exact run_convert_bytes_nil (P := Tryd.prog) w 23 5 Tryd.underlying23 Tryd.underlying5 bl bc 9 Tryd.underlying9
  | some a =>
    have hl : (loadCells a bl).run Tryd.prog w = .ok ((bs.map fun b => (b.toNat : Int)).map (Value.int .u8)).toArray w := by
      have := run_loadCells_list (P := Tryd.prog) w a (bs.map u8v) (h.cells _ rfl)
      rw [List.length_map, hlen] at this
      rw [this, List.map_map]
      rfl
    rw [run_convert_bytes_string w 23 9 5 _ bl bc Tryd.underlying23 Tryd.underlying5 Tryd.underlying9, run_bytesToString w _ bl bc _ hl, foldl_push_bytes, ← strOf_nums]
    simp [strOfNums, ByteArray.empty, ByteArray.emptyWithCapacity]
    rfl
end Go.Proofs.YtcjflnnjieolfaaDoor
