/- R11e, R11L in one text. -/
import Derived.Test.YthpnnffogbjhpaaGreatDoorR11d
import Derived.Test.YthpnnffogbjhpaaGreatDoorKvRv
import Derived.Test.YthpnnffogbjhpaaGreatDoorKvWH
import Derived.Test.YthpnnffogbjhpaaGreatDoorGenAll
set_option linter.unusedSimpArgs false
set_option linter.unusedVariables false
set_option linter.unnecessarySimpa false
namespace Go.Proofs.YthpnnffogbjhpaaGreatDoor.Kv
set_option linter.unusedSimpArgs false
set_option linter.unusedVariables false
open Go.RowKit Go.Lib Go.Proofs.YthpnnffogbjhpaaGreatDoor.Crc Go.Proofs.YthpnnffogbjhpaaGreatDoor.Cm

theorem radoP_any {Tp Tl T' : Nat → Prop} {vp vl vc : Value} {a : Ap} {c : Cm} {i : Nat} (w : World) (h : pairK.row w Tp vp a.m) (hTp : ∀ k, Tp k → k < w.heap.size) (h2 : laK.row w Tl vl a.t) (hc : CmAt w T' vc c) (ho : ApOk a i) (hi : i ≤ 400) :
    Calls Tryz.prog 12 #[.agg #[vp, vl, .int .u64 (a.n : Int)], vc] w fun e w' => (∃ vp' vl', e = .returned (.tuple #[.agg #[vp', vl', .int .u64 ((apDo a c).1.n : Int)], rpv (apDo a c).2.1, .bool (apDo a c).2.2]) ∧
      pairK.row w' (fun g => Tp g ∨ since w.heap.size w' g) vp' (apDo a c).1.m ∧ laK.row w' (fun g => Tl g ∨ since w.heap.size w' g) vl' (apDo a c).1.t) ∧ Upd [] w w' := by
  have h1 := ho.len; have h3 := ho.tab; have h4 := ho.n
  exact rado_any (Pr := fun w U v m => pairK.row w U v m) w (fun w w' U S v m h hu hk => pairK.row_upd h hu hk) (fun w U V v m h hk => pairK.row_mono h hk)
    (fun w U v m h => by obtain ⟨xo, cp, rfl, -, -⟩ := Row.slice h; exact ⟨_, _, _, rfl⟩)
    (fun w U vp h hU hc => rdo_any w h hc ho.kv (by omega) hU) h hTp h2 hc ho.rise (fun p hp => by obtain ⟨q1, q2, -, -⟩ := ho.row p hp; exact ⟨q1, q2⟩) (by omega) (by omega)
theorem res_facts33 {w : World} {A : Nat} {t : TypeId} {u0 u1 u2 : Value} (hA : w.heap[A]? = some (.cells #[u0, u1, u2] t (0, 0))) :
    w.cell? ⟨A, 0, none⟩ = some u0 ∧ w.frozen? ⟨A, 0, none⟩ = false ∧ (∀ v, (w.setCell ⟨A, 0, none⟩ v).cell? ⟨A, 1, none⟩ = some u1) ∧ (∀ v, (w.setCell ⟨A, 0, none⟩ v).frozen? ⟨A, 1, none⟩ = false) ∧
    (∀ v v', ((w.setCell ⟨A, 0, none⟩ v).setCell ⟨A, 1, none⟩ v').cell? ⟨A, 2, none⟩ = some u2) ∧ (∀ v v', ((w.setCell ⟨A, 0, none⟩ v).setCell ⟨A, 1, none⟩ v').frozen? ⟨A, 2, none⟩ = false) ∧
    (∀ v v' v'', (((w.setCell ⟨A, 0, none⟩ v).setCell ⟨A, 1, none⟩ v').setCell ⟨A, 2, none⟩ v'').heap[A]? = some (.cells #[v, v', v''] t (0, 0)) ∧
      Upd [A] w (((w.setCell ⟨A, 0, none⟩ v).setCell ⟨A, 1, none⟩ v').setCell ⟨A, 2, none⟩ v'')) := by
  have h1 : ∀ v, (w.setCell ⟨A, 0, none⟩ v).heap[A]? = some (.cells #[v, u1, u2] t (0, 0)) := fun v => by
    have h1 := blk_set (i := 0) hA v
    simpa only [List.setIfInBounds_toArray, List.set_cons_zero] using h1
  have h2 : ∀ v v', ((w.setCell ⟨A, 0, none⟩ v).setCell ⟨A, 1, none⟩ v').heap[A]? = some (.cells #[v, v', u2] t (0, 0)) := fun v v' => by
    have h2 := blk_set (i := 1) (h1 v) v'
    simpa only [List.setIfInBounds_toArray, List.set_cons_succ, List.set_cons_zero] using h2
  exact ⟨blk_cell hA rfl, blk_free hA, fun v => blk_cell (h1 v) rfl, fun v => blk_free (h1 v), fun v v' => blk_cell (h2 v v') rfl, fun v v' => blk_free (h2 v v'), fun v v' v'' => ⟨stored3 hA,
    (((Upd.refl [A] w).setCell (p := ⟨A, 0, none⟩) (.inl (by simp)) v).setCell (p := ⟨A, 1, none⟩) (.inl (by simp)) v').setCell (p := ⟨A, 2, none⟩) (.inl (by simp)) v''⟩⟩
end Go.Proofs.YthpnnffogbjhpaaGreatDoor.Kv
namespace Go.Proofs.YthpnnffogbjhpaaGreatDoor.Kv
set_option linter.unusedSimpArgs false
set_option linter.unusedVariables false
open Go.RowKit Go.Lib Go.Proofs.YthpnnffogbjhpaaGreatDoor.Crc Go.Proofs.YthpnnffogbjhpaaGreatDoor.Cm

section
variable {P : Program} {ops : Array Oper} {Q : Exit → Act → World → Prop} {md : Region.Mode} {S : World → Prop} {z : Nat}
/-- Three may come up. -/
theorem wpAnyZ_three (i j l : Nat) {oi oj ol : Oper} {fuel : Nat} {listed : Array Bool} {a : Act} {w : World} (hr : Region.ready md ops listed = [i, j, l]) (hi : ops[i]? = some oi) (hj : ops[j]? = some oj) (hl : ops[l]? = some ol)
    (hwi : Region.wanted oi (yielded ops a.tmps) = true) (hwj : Region.wanted oj (yielded ops a.tmps) = true) (hwl : Region.wanted ol (yielded ops a.tmps) = true)
    (h1 : ∀ K : Act → World → Prop, (∀ a' w', (i = z ∨ S w') → wpAnyZ P md ops Q S z fuel (listed.setIfInBounds i true) a' w' → K a' w') → oi.wp P a w K Q)
    (h2 : ∀ K : Act → World → Prop, (∀ a' w', (j = z ∨ S w') → wpAnyZ P md ops Q S z fuel (listed.setIfInBounds j true) a' w' → K a' w') → oj.wp P a w K Q)
    (h3 : ∀ K : Act → World → Prop, (∀ a' w', (l = z ∨ S w') → wpAnyZ P md ops Q S z fuel (listed.setIfInBounds l true) a' w' → K a' w') → ol.wp P a w K Q) : wpAnyZ P md ops Q S z (fuel + 1) listed a w := by
  refine ⟨fun h0 => (by rw [hr] at h0; cases h0), ?_⟩
  rw [hr]
  intro k hk
  have hk' : k = i ∨ k = j ∨ k = l := by simpa using hk
  rcases hk' with rfl | rfl | rfl
  · unfold wpOp
    rw [hi]
    simp only [hwi, if_true]
    exact .inl (h1 _ (fun a' w' h1 h2 => ⟨h1, h2⟩))
  · unfold wpOp
    rw [hj]
    simp only [hwj, if_true]
    exact .inl (h2 _ (fun a' w' h1 h2 => ⟨h1, h2⟩))
  · unfold wpOp
    rw [hl]
    simp only [hwl, if_true]
    exact .inl (h3 _ (fun a' w' h1 h2 => ⟨h1, h2⟩))
end
/-- The application behind a command, the reply and whether it was fresh, as they lie behind the document's Do. -/
def Nexted (w4 : World) (G : Nat) (a' : Ap) (r' : Rp) (f' : Bool) (s7 s8 s9 : Value) (wx : World) : Prop := ∃ B7 B8 vp vl, s7 = .pointer (some ⟨B7, 0, none⟩) ∧ s8 = .pointer (some ⟨B8, 0, none⟩) ∧ s9 = .bool f' ∧
  wx.heap[B7]? = some (.cells #[vp, vl, .int .u64 (a'.n : Int)] TRa (0, 0)) ∧ wx.heap[B8]? = some (.cells #[.int .u8 (r'.code : Int), .string (strOf r'.text)] TRp (0, 0)) ∧ w4.heap.size ≤ B7 ∧ w4.heap.size ≤ B8 ∧
  Upd [] w4 wx ∧ pairK.row wx (since G wx) vp a'.m ∧ laK.row wx (since G wx) vl a'.t
theorem Nexted.mk {w4 wp wc wx : World} {G B7 B8 : Nat} {a' : Ap} {r' : Rp} {f' : Bool} {vp vl : Value} (h7 : wx.heap[B7]? = some (.cells #[vp, vl, .int .u64 (a'.n : Int)] TRa (0, 0)))
    (h8 : wx.heap[B8]? = some (.cells #[.int .u8 (r'.code : Int), .string (strOf r'.text)] TRp (0, 0))) (g7 : w4.heap.size ≤ B7) (g8 : w4.heap.size ≤ B8) (hu : Upd [] w4 wx) (hc : Upd [B7, B8] wc wx)
    (hp : pairK.row wc (fun g => since G w4 g ∨ since wp.heap.size wc g) vp a'.m) (hl : laK.row wc (fun g => since G w4 g ∨ since wp.heap.size wc g) vl a'.t) (hTp : ∀ k, since G w4 k → k < w4.heap.size) (hTl : G ≤ w4.heap.size) (hwp : w4.heap.size ≤ wp.heap.size)
    (n7 : B7 < wp.heap.size ∨ wc.heap.size ≤ B7) (n8 : B8 < wp.heap.size ∨ wc.heap.size ≤ B8) : Nexted w4 G a' r' f' (.pointer (some ⟨B7, 0, none⟩)) (.pointer (some ⟨B8, 0, none⟩)) (.bool f') wx := by
  have hs := hc.size; have hs4 := hu.size
  have key : ∀ k ∈ [B7, B8], ¬ (since G w4 k ∨ since wp.heap.size wc k) := fun k hk hT => by
    simp only [List.mem_cons, List.not_mem_nil, or_false] at hk
    rcases hT with hT | hT
    · have := hTp k hT; omega
    · have h1 := hT.1; have h2 := hT.2; omega
  have up : ∀ g, (since G w4 g ∨ since wp.heap.size wc g) → since G wx g := fun g hg => by
    rcases hg with h | h
    · have h1 := h.1; have h2 := h.2; exact ⟨h1, by omega⟩
    · have h1 := h.1; have h2 := h.2; exact ⟨by omega, by omega⟩
  exact ⟨B7, B8, vp, vl, rfl, rfl, rfl, h7, h8, g7, g8, hu, pairK.row_mono (pairK.row_upd hp hc key) up, laK.row_mono (laK.row_upd hl hc key) up⟩
end Go.Proofs.YthpnnffogbjhpaaGreatDoor.Kv
