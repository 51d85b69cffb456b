/- The known things that the laws of layer 25 tell, as plain data. -/
import Derived.Test.YtloaceaomljeiaaDoorTrJ
namespace Go.Proofs.YtloaceaomljeiaaDoor.Tr
open Go.RowKit Go.Proofs.YtloaceaomljeiaaDoor.Crc Go.Proofs.YtloaceaomljeiaaDoor.Cm Go.Proofs.YtloaceaomljeiaaDoor.Var

/-- A client's put. -/
def putM (c : Nat) : Cm := ⟨c, 1, 1, [[107]], [], [118], 0⟩
theorem putM_good (c : Nat) (h : c ≠ 0) : Cm.Good (putM c) := by
  refine ⟨h, ?_⟩
  simp [putM, lo, hi]
theorem putM_fits (c : Nat) (h : c < 4294967296) : (putM c).Fits := by
  refine ⟨h, ?_⟩
  simp [putM]
def xM : List UInt8 := batchM [putM 1, putM 2]
def yM : List UInt8 := batchM [putM 3]
theorem parse_x : parseM xM = ([putM 1, putM 2], 0) := by kernel_rfl
theorem parse_y : parseM yM = ([putM 3], 0) := by kernel_rfl
theorem x_len : xM.length = 21 ∧ yM.length = 11 := ⟨by kernel_rfl, by kernel_rfl⟩
def anM (c : Nat) : An := ⟨c, 0, 0, []⟩
def told0 : List Td := [⟨[anM 3, anM 1, anM 2, anM 9], [(2, yM), (1, xM), (4, xM)]⟩]
theorem told0_small : ∀ t ∈ told0, t.done.length ≤ 1000 ∧ t.ans.length ≤ 1000000 ∧ ∀ d ∈ t.done, d.2.length ≤ 1000000000000 := by
  intro t ht
  cases List.mem_singleton.1 ht
  refine ⟨by decide, by decide, fun d hd => ?_⟩
  rcases List.mem_cons.1 hd with rfl | hd
  · exact Nat.le_trans (Nat.le_of_eq x_len.2) (by decide)
  rcases List.mem_cons.1 hd with rfl | hd
  · exact Nat.le_trans (Nat.le_of_eq x_len.1) (by decide)
  cases List.mem_singleton.1 hd
  exact Nat.le_trans (Nat.le_of_eq x_len.1) (by decide)
def log0 : List Sl := [⟨1, [putM 1, putM 2], [anM 1, anM 2]⟩, ⟨2, [putM 3], [anM 3]⟩]
theorem all0 : allM told0 = [⟨2, [putM 3], [anM 3]⟩, ⟨1, [putM 1, putM 2], [anM 1, anM 2]⟩, ⟨4, [putM 1, putM 2], [anM 9]⟩] := by
  simp [allM, told0, partedM, parse_x, parse_y]
theorem log0_is {out : List Sl} (h : LogIs (allM told0) out) : out = log0 := by
  refine h.unique ⟨fun i x hi => ?_, ?_⟩
  · rw [all0]
    match i, hi with
    | 0, hi => cases hi; rfl
    | 1, hi => cases hi; rfl
    | i + 2, hi => simp [log0] at hi
  · rw [all0]; rfl
def ent0 : List En := [submitE (putM 3), submitE Cm.zero, ⟨2, 0, 0, putM 9⟩, ⟨1, 2, 0, putM 1⟩, submitE (putM 4), submitE (putM 2)]
def script0 : List En := ([putM 3, putM 1, putM 4, putM 2].map submitE) ++ (electE 1 :: (List.replicate 10 takeE ++ (electE 2 :: (List.replicate 10 takeE ++ (electE 0 :: (List.replicate 10 takeE ++ []))))))
theorem script0_is : scriptM (3 - 1) ent0 log0 = script0 := by
  have h1 : subsM ent0 = [putM 3, putM 1, putM 4, putM 2] := by
    have gz : decide (Cm.Good Cm.zero) = false := by simp [Cm.Good, Cm.zero]
    simp [subsM, ent0, submitE, putM_good, gz]
  unfold scriptM
  rw [h1]
  rfl
end Go.Proofs.YtloaceaomljeiaaDoor.Tr
