/- Helpers: rows of texts in a block, replies held together, two operations that may come up. -/
import Derived.Test.YtcjflnnjieolfaaGreatDoorKvD
import Derived.Test.YtcjflnnjieolfaaGreatDoorKvEq
namespace Go.Proofs.YtcjflnnjieolfaaGreatDoor.Kv
set_option linter.unusedSimpArgs false
set_option linter.unusedVariables false
set_option linter.unnecessarySimpa false
open Go.RowKit Go.Lib Go.Proofs.YtcjflnnjieolfaaGreatDoor.Crc Go.Proofs.YtcjflnnjieolfaaGreatDoor.Cm

theorem srcB_blk {w : World} {b n z : Nat} {cs : List Value} {t : TypeId} (h : w.heap[b]? = some (.cells cs.toArray t (0, 0))) (hn : cs.length = n * z) (h1 : ∀ u ∈ cs, u.oneCell' = true) : SrcAt w (some ⟨b, 0, none⟩) n n cs z := by
  refine ⟨hn, h1, by simp, fun a e j u hj => ?_⟩
  cases e
  rw [add_plain]
  simp only [World.cell?, h]
  simpa using hj
theorem strs1 {w : World} {b : Nat} {s : List UInt8} {t : TypeId} (h : w.heap[b]? = some (.cells #[.string (strOf s)] t (0, 0))) : Strs w (fun _ => True) (.slice (some ⟨b, 0, none⟩) 1 1) [s] :=
  ⟨_, _, rfl, srcB_blk (cs := [.string (strOf s)]) h rfl (by simp [Value.oneCell']), Nat.le_refl _, by simp [maxLen], fun _ _ _ => trivial⟩
theorem fits_small {c : Cm} (h1 : c.client < 1000) (h2 : c.seq < 1000) (h3 : c.kind < 100) (h4 : -1000 ≤ c.n ∧ c.n ≤ 1000) (h5 : c.keys.length < 1000) (h6 : c.old.length < 1000) (h7 : c.new.length < 1000) (h8 : ∀ k ∈ c.keys, k.length < 1000) : c.Fits := by
  refine ⟨by omega, by omega, by omega, by omega, by omega, by omega, by omega, by omega, fun k hk => ?_⟩
  have := h8 k hk
  omega
theorem eql_rp (a b : Rp) (w : World) : (binOp .eql 29 (.agg #[.int .u8 (a.code : Int), .string (strOf a.text)]) (.agg #[.int .u8 (b.code : Int), .string (strOf b.text)])).run Tryz.prog w = .ok (.bool (decide (a = b))) w := by
  rw [run_eql_struct, eq_rp]
  rfl
section
variable {P : Program} {ops : Array Oper} {Q : Exit → Act → World → Prop} {md : Region.Mode} {S : World → Prop} {z : Nat}
/-- Two may come up. -/
theorem wpAnyZ_two (i j : Nat) {oi oj : Oper} {fuel : Nat} {listed : Array Bool} {a : Act} {w : World} (hr : Region.ready md ops listed = [i, j]) (hi : ops[i]? = some oi) (hj : ops[j]? = some oj)
    (hwi : Region.wanted oi (yielded ops a.tmps) = true) (hwj : Region.wanted oj (yielded ops a.tmps) = true)
    (h1 : ∀ K : Act → World → Prop, (∀ a' w', (i = z ∨ S w') → wpAnyZ P md ops Q S z fuel (listed.setIfInBounds i true) a' w' → K a' w') → oi.wp P a w K Q)
    (h2 : ∀ K : Act → World → Prop, (∀ a' w', (j = z ∨ S w') → wpAnyZ P md ops Q S z fuel (listed.setIfInBounds j true) a' w' → K a' w') → oj.wp P a w K Q) : wpAnyZ P md ops Q S z (fuel + 1) listed a w := by
  refine ⟨fun h0 => (by rw [hr] at h0; cases h0), ?_⟩
  rw [hr]
  intro k hk
  have hk' : k = i ∨ k = j := by simpa using hk
  rcases hk' with rfl | rfl
  · unfold wpOp
    rw [hi]
    simp only [hwi, if_true]
    exact .inl (h1 _ (fun a' w' h1 h2 => ⟨h1, h2⟩))
  · unfold wpOp
    rw [hj]
    simp only [hwj, if_true]
    exact .inl (h2 _ (fun a' w' h1 h2 => ⟨h1, h2⟩))
end
end Go.Proofs.YtcjflnnjieolfaaGreatDoor.Kv
