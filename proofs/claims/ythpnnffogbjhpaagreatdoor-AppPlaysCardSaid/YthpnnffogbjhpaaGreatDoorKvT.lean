/- Applications in memory; app.New, Count, State, Table, Copy. -/
import Derived.Test.YthpnnffogbjhpaaGreatDoorKvD
import Derived.Test.YthpnnffogbjhpaaGreatDoorKvN
import Derived.Test.YthpnnffogbjhpaaGreatDoorGenAll
set_option linter.unusedSimpArgs false
set_option linter.unusedVariables false
set_option linter.unnecessarySimpa false
namespace Go.Proofs.YthpnnffogbjhpaaGreatDoor.Kv
open Go.RowKit Go.Lib Go.Proofs.YthpnnffogbjhpaaGreatDoor.Crc Go.Proofs.YthpnnffogbjhpaaGreatDoor.Cm

/-- What changed lies from lo on, and ahead of hi. -/
def Turned (lo hi : Nat) (w w' : World) : Prop := ∃ S : List Nat, (∀ k ∈ S, lo ≤ k ∧ k < hi) ∧ Upd S w w'
theorem Turned.of_nil {w w' : World} (h : Upd [] w w') (lo hi : Nat) : Turned lo hi w w' := ⟨[], by simp, h⟩
theorem Turned.trans {lo hi : Nat} {a b c : World} (h : Turned lo hi a b) (k : Turned lo hi b c) : Turned lo hi a c := by
  obtain ⟨S, h1, h2⟩ := h
  obtain ⟨T, k1, k2⟩ := k
  refine ⟨S ++ T, fun x hx => ?_, (h2.mono (by simp +contextual)).trans (k2.mono (by simp +contextual))⟩
  rcases List.mem_append.1 hx with h | h
  · exact h1 x h
  · exact k1 x h
theorem Turned.mono {lo hi lo' hi' : Nat} {a b : World} (h : Turned lo hi a b) (h1 : lo' ≤ lo) (h2 : hi ≤ hi') : Turned lo' hi' a b := by
  obtain ⟨S, h3, h4⟩ := h
  exact ⟨S, fun k hk => by have := h3 k hk; omega, h4⟩
theorem Turned.size {lo hi : Nat} {a b : World} (h : Turned lo hi a b) : a.heap.size ≤ b.heap.size := by
  obtain ⟨S, h3, h4⟩ := h
  exact h4.size
theorem Turned.get {lo hi : Nat} {w w' : World} {b : Nat} {o : Obj} (h : Turned lo hi w w') (hb : w.heap[b]? = some o) (hn : b < lo ∨ hi ≤ b) : w'.heap[b]? = some o := by
  obtain ⟨S, h3, h4⟩ := h
  exact h4.get hb (fun hk => by have := h3 b hk; omega)
/-- What is behind a world turned nothing that it had. -/
theorem Turned.upd_new {lo hi : Nat} {a w w' : World} {S : List Nat} (h : Turned lo hi w w') (hu : Upd S a w) (hn : a.heap.size ≤ lo) : Upd S a w' := by
  obtain ⟨T, h3, h4⟩ := h
  exact hu.trans_new h4 (fun k hk => .inr (by have := h3 k hk; omega))
theorem Turned.env {lo hi : Nat} {w w' : World} (h : Turned lo hi w w') (he : EnvAt w) (hn : ∀ k ∈ [0, 1, 2, 3], k < lo) : EnvAt w' := by
  obtain ⟨S, h3, h4⟩ := h
  have key : ∀ k ∈ [0, 1, 2, 3], k ∉ S := fun k hk hS => by have := hn k hk; have := h3 k hS; omega
  exact he.upd h4 (key _ (by simp)) (key _ (by simp)) (key _ (by simp)) (key _ (by simp))
abbrev TApp : TypeId := 85
/-- An application at p: its state's block and map, its table's. -/
structure ApAt (w : World) (p sb sg tb tc tg : Nat) (a : Ap) : Prop where
  blk : w.heap[p]? = some (.cells #[.pointer (some ⟨sb, 0, none⟩), .pointer (some ⟨tb, 0, none⟩), .int .u64 (a.n : Int)] TApp (0, 0))
  st : StIs w sb sg a.m
  tab : TbIs w tb tc tg a.t
  ne : sg ≠ tg
theorem ApAt.upd {w w' : World} {p sb sg tb tc tg : Nat} {a : Ap} {S : List Nat} (h : ApAt w p sb sg tb tc tg a) (hu : Upd S w w') (h0 : p ∉ S) (h1 : sb ∉ S) (h2 : sg ∉ S) (h3 : tb ∉ S) (h4 : tc ∉ S) (h5 : tg ∉ S) : ApAt w' p sb sg tb tc tg a :=
  ⟨hu.get h.blk h0, h.st.upd hu h1 h2, h.tab.upd hu h3 h4 h5, h.ne⟩
theorem map_ne {κ α : Type} {M : MapKind Tryz.prog κ α} {w : World} {g k : Nat} {l : List (κ × α)} {cs : Array Value} {t : TypeId} (h : M.is w g l) (hk : w.heap[k]? = some (.cells cs t (0, 0))) : k ≠ g := by
  obtain ⟨es, clock, hb, -⟩ := h
  rintro rfl
  rw [hb] at hk
  cases hk
theorem ApAt.nes {w : World} {p sb sg tb tc tg : Nat} {a : Ap} (h : ApAt w p sb sg tb tc tg a) : p ≠ sg ∧ p ≠ tg ∧ sb ≠ sg ∧ sb ≠ tg ∧ tb ≠ sg ∧ tb ≠ tg ∧ tc ≠ sg ∧ tc ≠ tg ∧ p ≠ sb ∧ p ≠ tb ∧ p ≠ tc := by
  refine ⟨map_ne h.st.map h.blk, map_ne h.tab.map h.blk, map_ne h.st.map h.st.blk, map_ne h.tab.map h.st.blk, map_ne h.st.map h.tab.blk, map_ne h.tab.map h.tab.blk, map_ne h.st.map h.tab.cli, map_ne h.tab.map h.tab.cli, ?_, ?_, ?_⟩
  · rintro rfl; have := h.blk.symm.trans h.st.blk; simp at this
  · rintro rfl; have := h.blk.symm.trans h.tab.blk; simp at this
  · rintro rfl; have := h.blk.symm.trans h.tab.cli; simp at this
/-- .. wherever its blocks lie, from lo on and ahead of hi. -/
def ApIs (w : World) (lo hi p : Nat) (a : Ap) : Prop :=
  ∃ sb sg tb tc tg, ApAt w p sb sg tb tc tg a ∧ lo ≤ p ∧ p < hi ∧ lo ≤ sb ∧ sb < hi ∧ lo ≤ sg ∧ sg < hi ∧ lo ≤ tb ∧ tb < hi ∧ lo ≤ tc ∧ tc < hi ∧ lo ≤ tg ∧ tg < hi
theorem ApIs.keep {w w' : World} {lo hi lo' hi' p : Nat} {a : Ap} (h : ApIs w lo hi p a) (ht : Turned lo' hi' w w') (hn : hi ≤ lo' ∨ hi' ≤ lo) : ApIs w' lo hi p a := by
  obtain ⟨sb, sg, tb, tc, tg, h, h1, h2, h3, h4, h5, h6, h7, h8, h9, h10, h11, h12⟩ := h
  obtain ⟨S, k1, k2⟩ := ht
  have key : ∀ k, lo ≤ k → k < hi → k ∉ S := fun k q1 q2 hk => by have := k1 k hk; omega
  exact ⟨sb, sg, tb, tc, tg, h.upd k2 (key _ h1 h2) (key _ h3 h4) (key _ h5 h6) (key _ h7 h8) (key _ h9 h10) (key _ h11 h12), h1, h2, h3, h4, h5, h6, h7, h8, h9, h10, h11, h12⟩
theorem ApIs.upd_nil {w w' : World} {lo hi p : Nat} {a : Ap} (h : ApIs w lo hi p a) (hu : Upd [] w w') : ApIs w' lo hi p a := h.keep (Turned.of_nil hu hi hi) (.inl (Nat.le_refl _))
set_option maxRecDepth 100000 in
theorem anew_any (w : World) : Calls Tryz.prog 10 #[] w fun e w' => (∃ p, e = .returned (.pointer (some ⟨p, 0, none⟩)) ∧ ApIs w' w.heap.size w'.heap.size p ap0) ∧ Upd [] w w' := by
  go_enter Tryz.func10, Tryz.ntmps10
  go_wp2_with fail
  refine (new_any w).mono ?_
  rintro e w1 ⟨rfl, hs1, hu1⟩
  have S1 := hide hs1; have U1 := hide hu1
  clear hs1 hu1
  go_wp2_with fail
  refine (tnew_any w1).mono ?_
  rintro e w2 ⟨rfl, ht2, hu2⟩
  have S2 := hide (S1.out.upd_nil hu2); have T2 := hide ht2; have U2 := hide (U1.out.trans hu2)
  have l1 := blk_lt S1.out.blk; have l2 := MapKind.is_lt S1.out.map; have l3 := blk_lt ht2.blk
  clear ht2 hu2
  go_wp2_with fail
  go_ret
  have hz := U2.out.size
  refine ⟨⟨_, rfl, w.heap.size + 1, w.heap.size, w1.heap.size + 2, w1.heap.size + 1, w1.heap.size, ⟨blk_new w2 _, S2.out.upd_nil ((Upd.refl [] w2).alloc _), T2.out.upd_nil ((Upd.refl [] w2).alloc _), by omega⟩, ?_⟩, U2.out.alloc _⟩
  simp only [World.size_alloc]
  omega
theorem acount_any {lo hi p : Nat} {a : Ap} (w : World) (h : ApIs w lo hi p a) : Calls Tryz.prog 14 #[.pointer (some ⟨p, 0, none⟩)] w fun e w' => e = .returned (.int .u64 (a.n : Int)) ∧ w = w' := by
  obtain ⟨sb, sg, tb, tc, tg, h, -⟩ := h
  have c2 : w.cell? ⟨p, 2, none⟩ = some (.int .u64 (a.n : Int)) := blk_cell h.blk rfl
  clear h
  go_enter Tryz.func14, Tryz.ntmps14
  go_wp2_with fail
  go_ret
  exact ⟨rfl, rfl⟩
theorem astate_any {lo hi p i : Nat} {a : Ap} (w : World) (h : ApIs w lo hi p a) (ho : ApOk a i) (hi : i ≤ 10000) : Calls Tryz.prog 17 #[.pointer (some ⟨p, 0, none⟩)] w fun e w' => (∃ b' g', e = .returned (.pointer (some ⟨b', 0, none⟩)) ∧ StIs w' b' g' a.m ∧ w.heap.size ≤ b' ∧ w.heap.size ≤ g') ∧ Upd [] w w' := by
  obtain ⟨sb, sg, tb, tc, tg, h, -⟩ := h
  have c2 : w.cell? ⟨p, 0, none⟩ = some (.pointer (some ⟨sb, 0, none⟩)) := blk_cell h.blk rfl
  have ST := hide h.st; have OK := hide ho
  clear h ho
  go_enter Tryz.func17, Tryz.ntmps17
  go_wp2_with fail
  refine (kcopy_any w ST.out OK.out.kv (by have := OK.out.len; omega)).mono ?_
  rintro e w1 ⟨⟨b', g', rfl, h1, h2, h3⟩, hu⟩
  have S1 := hide h1; have U1 := hide hu
  clear h1 hu c2
  go_wp2_with fail
  go_ret
  exact ⟨⟨_, _, rfl, S1.out, h2, h3⟩, U1.out⟩
theorem atable_any {lo hi p i : Nat} {a : Ap} (w : World) (h : ApIs w lo hi p a) (ho : ApOk a i) (hi : i ≤ 10000) : Calls Tryz.prog 19 #[.pointer (some ⟨p, 0, none⟩)] w fun e w' => (∃ b' c' g', e = .returned (.pointer (some ⟨b', 0, none⟩)) ∧ TbIs w' b' c' g' a.t ∧ w.heap.size ≤ b' ∧ w.heap.size ≤ c' ∧ w.heap.size ≤ g') ∧ Upd [] w w' := by
  obtain ⟨sb, sg, tb, tc, tg, h, -⟩ := h
  have c2 : w.cell? ⟨p, 1, none⟩ = some (.pointer (some ⟨tb, 0, none⟩)) := blk_cell h.blk rfl
  have ST := hide h.tab; have OK := hide ho
  clear h ho
  go_enter Tryz.func19, Tryz.ntmps19
  go_wp2_with fail
  refine (tcopy_any w ST.out OK.out.rise (fun p hp => (OK.out.row p hp).1) (by have := OK.out.tab; omega)).mono ?_
  rintro e w1 ⟨⟨b', c', g', rfl, h1, h2, h3, h4⟩, hu⟩
  have S1 := hide h1; have U1 := hide hu
  clear h1 hu c2
  go_wp2_with fail
  go_ret
  exact ⟨⟨_, _, _, rfl, S1.out, h2, h3, h4⟩, U1.out⟩
set_option maxRecDepth 100000 in
theorem acopy_any {lo hi p i : Nat} {a : Ap} (w : World) (h : ApIs w lo hi p a) (ho : ApOk a i) (hi : i ≤ 10000) : Calls Tryz.prog 11 #[.pointer (some ⟨p, 0, none⟩)] w fun e w' => (∃ q, e = .returned (.pointer (some ⟨q, 0, none⟩)) ∧ ApIs w' w.heap.size w'.heap.size q a) ∧ Upd [] w w' := by
  have H := hide h; have OK := hide ho
  clear h ho
  go_enter Tryz.func11, Tryz.ntmps11
  go_wp2_with fail
  refine (astate_any w H.out OK.out hi).mono ?_
  rintro e w1 ⟨⟨b1, g1, rfl, h1, h2, h3⟩, hu⟩
  have S1 := hide h1; have U1 := hide hu; have H1 := hide (H.out.upd_nil hu)
  clear h1 hu
  go_wp2_with fail
  refine (atable_any w1 H1.out OK.out hi).mono ?_
  rintro e w2 ⟨⟨b2, c2, g2, rfl, h4, h5, h6, h7⟩, hu⟩
  have S2 := hide (S1.out.upd_nil hu); have T2 := hide h4; have U2 := hide (U1.out.trans hu); have H2 := hide (H1.out.upd_nil hu)
  have hz1 := U1.out.size
  clear h4 hu
  go_wp2_with fail
  refine (acount_any w2 H2.out).mono ?_
  rintro e w3 ⟨rfl, rfl⟩
  go_wp2_with fail
  go_ret
  have l0 := blk_lt S1.out.blk; have l1 := MapKind.is_lt S1.out.map
  have l2 := blk_lt T2.out.blk; have l3 := blk_lt T2.out.cli; have l4 := MapKind.is_lt T2.out.map
  have hz := U2.out.size
  have m0 := blk_lt S2.out.blk; have m1 := MapKind.is_lt S2.out.map
  refine ⟨⟨_, rfl, b1, g1, b2, c2, g2, ⟨blk_new w2 _, S2.out.upd_nil ((Upd.refl [] w2).alloc _), T2.out.upd_nil ((Upd.refl [] w2).alloc _), by omega⟩, ?_⟩, U2.out.alloc _⟩
  simp only [World.size_alloc]
  omega
end Go.Proofs.YthpnnffogbjhpaaGreatDoor.Kv
