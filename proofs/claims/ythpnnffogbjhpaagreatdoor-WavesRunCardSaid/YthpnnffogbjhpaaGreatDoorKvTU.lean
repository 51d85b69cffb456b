/- KvT, KvU, KvX in one text. -/
import Derived.Test.YthpnnffogbjhpaaGreatDoorKvQD
import Derived.Test.YthpnnffogbjhpaaGreatDoorKvN
import Derived.Test.YthpnnffogbjhpaaGreatDoorGenAll
import Derived.Test.YthpnnffogbjhpaaGreatDoorKvWH
import Derived.Test.YthpnnffogbjhpaaGreatDoorKvEE
import Derived.Test.YthpnnffogbjhpaaGreatDoorKvGH
set_option linter.unusedSimpArgs false
set_option linter.unusedVariables false
set_option linter.unnecessarySimpa false
namespace Go.Proofs.YthpnnffogbjhpaaGreatDoor.Kv
open Go.RowKit Go.Lib Go.Proofs.YthpnnffogbjhpaaGreatDoor.Crc Go.Proofs.YthpnnffogbjhpaaGreatDoor.Cm

/-- What changed lies from lo on, and ahead of hi. -/
def Turned (lo hi : Nat) (w w' : World) : Prop := ∃ S : List Nat, (∀ k ∈ S, lo ≤ k ∧ k < hi) ∧ Upd S w w'
theorem Turned.of_nil {w w' : World} (h : Upd [] w w') (lo hi : Nat) : Turned lo hi w w' := ⟨[], by simp, h⟩
theorem Turned.trans {lo hi : Nat} {a b c : World} (h : Turned lo hi a b) (k : Turned lo hi b c) : Turned lo hi a c := by
  obtain ⟨S, h1, h2⟩ := h
  obtain ⟨T, k1, k2⟩ := k
  refine ⟨S ++ T, fun x hx => ?_, (h2.mono (by simp +contextual)).trans (k2.mono (by simp +contextual))⟩
  rcases List.mem_append.1 hx with h | h
  · exact h1 x h
  · exact k1 x h
theorem Turned.mono {lo hi lo' hi' : Nat} {a b : World} (h : Turned lo hi a b) (h1 : lo' ≤ lo) (h2 : hi ≤ hi') : Turned lo' hi' a b := by
  obtain ⟨S, h3, h4⟩ := h
  exact ⟨S, fun k hk => by have := h3 k hk; omega, h4⟩
theorem Turned.size {lo hi : Nat} {a b : World} (h : Turned lo hi a b) : a.heap.size ≤ b.heap.size := by
  obtain ⟨S, h3, h4⟩ := h
  exact h4.size
theorem Turned.get {lo hi : Nat} {w w' : World} {b : Nat} {o : Obj} (h : Turned lo hi w w') (hb : w.heap[b]? = some o) (hn : b < lo ∨ hi ≤ b) : w'.heap[b]? = some o := by
  obtain ⟨S, h3, h4⟩ := h
  exact h4.get hb (fun hk => by have := h3 b hk; omega)
/-- What is behind a world turned nothing that it had. -/
theorem Turned.upd_new {lo hi : Nat} {a w w' : World} {S : List Nat} (h : Turned lo hi w w') (hu : Upd S a w) (hn : a.heap.size ≤ lo) : Upd S a w' := by
  obtain ⟨T, h3, h4⟩ := h
  exact hu.trans_new h4 (fun k hk => .inr (by have := h3 k hk; omega))
theorem Turned.env {lo hi : Nat} {w w' : World} (h : Turned lo hi w w') (he : EnvAt w) (hn : ∀ k ∈ [0, 1, 2, 3], k < lo) : EnvAt w' := by
  obtain ⟨S, h3, h4⟩ := h
  have key : ∀ k ∈ [0, 1, 2, 3], k ∉ S := fun k hk hS => by have := hn k hk; have := h3 k hS; omega
  exact he.upd h4 (key _ (by simp)) (key _ (by simp)) (key _ (by simp)) (key _ (by simp))
abbrev TApp : TypeId := 85
/-- An application at p: its state's block and map, its table's. -/
structure ApAt (w : World) (p sb sg tb tc tg : Nat) (a : Ap) : Prop where
  blk : w.heap[p]? = some (.cells #[.pointer (some ⟨sb, 0, none⟩), .pointer (some ⟨tb, 0, none⟩), .int .u64 (a.n : Int)] TApp (0, 0))
  st : StIs w sb sg a.m
  tab : TbIs w tb tc tg a.t
  ne : sg ≠ tg
theorem ApAt.upd {w w' : World} {p sb sg tb tc tg : Nat} {a : Ap} {S : List Nat} (h : ApAt w p sb sg tb tc tg a) (hu : Upd S w w') (h0 : p ∉ S) (h1 : sb ∉ S) (h2 : sg ∉ S) (h3 : tb ∉ S) (h4 : tc ∉ S) (h5 : tg ∉ S) : ApAt w' p sb sg tb tc tg a :=
  ⟨hu.get h.blk h0, h.st.upd hu h1 h2, h.tab.upd hu h3 h4 h5, h.ne⟩
theorem map_ne {κ α : Type} {M : MapKind Tryz.prog κ α} {w : World} {g k : Nat} {l : List (κ × α)} {cs : Array Value} {t : TypeId} (h : M.is w g l) (hk : w.heap[k]? = some (.cells cs t (0, 0))) : k ≠ g := by
  obtain ⟨es, clock, hb, -⟩ := h
  rintro rfl
  rw [hb] at hk
  cases hk
theorem ApAt.nes {w : World} {p sb sg tb tc tg : Nat} {a : Ap} (h : ApAt w p sb sg tb tc tg a) : p ≠ sg ∧ p ≠ tg ∧ sb ≠ sg ∧ sb ≠ tg ∧ tb ≠ sg ∧ tb ≠ tg ∧ tc ≠ sg ∧ tc ≠ tg ∧ p ≠ sb ∧ p ≠ tb ∧ p ≠ tc := by
  refine ⟨map_ne h.st.map h.blk, map_ne h.tab.map h.blk, map_ne h.st.map h.st.blk, map_ne h.tab.map h.st.blk, map_ne h.st.map h.tab.blk, map_ne h.tab.map h.tab.blk, map_ne h.st.map h.tab.cli, map_ne h.tab.map h.tab.cli, ?_, ?_, ?_⟩
  · rintro rfl; have := h.blk.symm.trans h.st.blk; simp at this
  · rintro rfl; have := h.blk.symm.trans h.tab.blk; simp at this
  · rintro rfl; have := h.blk.symm.trans h.tab.cli; simp at this
/-- .. wherever its blocks lie, from lo on and ahead of hi. -/
def ApIs (w : World) (lo hi p : Nat) (a : Ap) : Prop :=
  ∃ sb sg tb tc tg, ApAt w p sb sg tb tc tg a ∧ lo ≤ p ∧ p < hi ∧ lo ≤ sb ∧ sb < hi ∧ lo ≤ sg ∧ sg < hi ∧ lo ≤ tb ∧ tb < hi ∧ lo ≤ tc ∧ tc < hi ∧ lo ≤ tg ∧ tg < hi
theorem ApIs.keep {w w' : World} {lo hi lo' hi' p : Nat} {a : Ap} (h : ApIs w lo hi p a) (ht : Turned lo' hi' w w') (hn : hi ≤ lo' ∨ hi' ≤ lo) : ApIs w' lo hi p a := by
  obtain ⟨sb, sg, tb, tc, tg, h, h1, h2, h3, h4, h5, h6, h7, h8, h9, h10, h11, h12⟩ := h
  obtain ⟨S, k1, k2⟩ := ht
  have key : ∀ k, lo ≤ k → k < hi → k ∉ S := fun k q1 q2 hk => by have := k1 k hk; omega
  exact ⟨sb, sg, tb, tc, tg, h.upd k2 (key _ h1 h2) (key _ h3 h4) (key _ h5 h6) (key _ h7 h8) (key _ h9 h10) (key _ h11 h12), h1, h2, h3, h4, h5, h6, h7, h8, h9, h10, h11, h12⟩
theorem ApIs.upd_nil {w w' : World} {lo hi p : Nat} {a : Ap} (h : ApIs w lo hi p a) (hu : Upd [] w w') : ApIs w' lo hi p a := h.keep (Turned.of_nil hu hi hi) (.inl (Nat.le_refl _))
set_option maxRecDepth 100000 in
theorem anew_any (w : World) : Calls Tryz.prog 10 #[] w fun e w' => (∃ p, e = .returned (.pointer (some ⟨p, 0, none⟩)) ∧ ApIs w' w.heap.size w'.heap.size p ap0) ∧ Upd [] w w' := by
  go_enter Tryz.func10, Tryz.ntmps10
  go_wp2_with fail
  refine (new_any w).mono ?_
  rintro e w1 ⟨rfl, hs1, hu1⟩
  have S1 := hide hs1; have U1 := hide hu1
  clear hs1 hu1
  go_wp2_with fail
  refine (tnew_any w1).mono ?_
  rintro e w2 ⟨rfl, ht2, hu2⟩
  have S2 := hide (S1.out.upd_nil hu2); have T2 := hide ht2; have U2 := hide (U1.out.trans hu2)
  have l1 := blk_lt S1.out.blk; have l2 := MapKind.is_lt S1.out.map; have l3 := blk_lt ht2.blk
  clear ht2 hu2
  go_wp2_with fail
  go_ret
  have hz := U2.out.size
  refine ⟨⟨_, rfl, w.heap.size + 1, w.heap.size, w1.heap.size + 2, w1.heap.size + 1, w1.heap.size, ⟨blk_new w2 _, S2.out.upd_nil ((Upd.refl [] w2).alloc _), T2.out.upd_nil ((Upd.refl [] w2).alloc _), by omega⟩, ?_⟩, U2.out.alloc _⟩
  simp only [World.size_alloc]
  omega
theorem acount_any {lo hi p : Nat} {a : Ap} (w : World) (h : ApIs w lo hi p a) : Calls Tryz.prog 14 #[.pointer (some ⟨p, 0, none⟩)] w fun e w' => e = .returned (.int .u64 (a.n : Int)) ∧ w = w' := by
  obtain ⟨sb, sg, tb, tc, tg, h, -⟩ := h
  have c2 : w.cell? ⟨p, 2, none⟩ = some (.int .u64 (a.n : Int)) := blk_cell h.blk rfl
  clear h
  go_enter Tryz.func14, Tryz.ntmps14
  go_wp2_with fail
  go_ret
  exact ⟨rfl, rfl⟩
theorem astate_any {lo hi p i : Nat} {a : Ap} (w : World) (h : ApIs w lo hi p a) (ho : ApOk a i) (hi : i ≤ 10000) : Calls Tryz.prog 17 #[.pointer (some ⟨p, 0, none⟩)] w fun e w' => (∃ b' g', e = .returned (.pointer (some ⟨b', 0, none⟩)) ∧ StIs w' b' g' a.m ∧ w.heap.size ≤ b' ∧ w.heap.size ≤ g') ∧ Upd [] w w' := by
  obtain ⟨sb, sg, tb, tc, tg, h, -⟩ := h
  have c2 : w.cell? ⟨p, 0, none⟩ = some (.pointer (some ⟨sb, 0, none⟩)) := blk_cell h.blk rfl
  have ST := hide h.st; have OK := hide ho
  clear h ho
  go_enter Tryz.func17, Tryz.ntmps17
  go_wp2_with fail
  refine (kcopy_any w ST.out OK.out.kv (by have := OK.out.len; omega)).mono ?_
  rintro e w1 ⟨⟨b', g', rfl, h1, h2, h3⟩, hu⟩
  have S1 := hide h1; have U1 := hide hu
  clear h1 hu c2
  go_wp2_with fail
  go_ret
  exact ⟨⟨_, _, rfl, S1.out, h2, h3⟩, U1.out⟩
theorem atable_any {lo hi p i : Nat} {a : Ap} (w : World) (h : ApIs w lo hi p a) (ho : ApOk a i) (hi : i ≤ 10000) : Calls Tryz.prog 19 #[.pointer (some ⟨p, 0, none⟩)] w fun e w' => (∃ b' c' g', e = .returned (.pointer (some ⟨b', 0, none⟩)) ∧ TbIs w' b' c' g' a.t ∧ w.heap.size ≤ b' ∧ w.heap.size ≤ c' ∧ w.heap.size ≤ g') ∧ Upd [] w w' := by
  obtain ⟨sb, sg, tb, tc, tg, h, -⟩ := h
  have c2 : w.cell? ⟨p, 1, none⟩ = some (.pointer (some ⟨tb, 0, none⟩)) := blk_cell h.blk rfl
  have ST := hide h.tab; have OK := hide ho
  clear h ho
  go_enter Tryz.func19, Tryz.ntmps19
  go_wp2_with fail
  refine (tcopy_any w ST.out OK.out.rise (fun p hp => (OK.out.row p hp).1) (by have := OK.out.tab; omega)).mono ?_
  rintro e w1 ⟨⟨b', c', g', rfl, h1, h2, h3, h4⟩, hu⟩
  have S1 := hide h1; have U1 := hide hu
  clear h1 hu c2
  go_wp2_with fail
  go_ret
  exact ⟨⟨_, _, _, rfl, S1.out, h2, h3, h4⟩, U1.out⟩
set_option maxRecDepth 100000 in
theorem acopy_any {lo hi p i : Nat} {a : Ap} (w : World) (h : ApIs w lo hi p a) (ho : ApOk a i) (hi : i ≤ 10000) : Calls Tryz.prog 11 #[.pointer (some ⟨p, 0, none⟩)] w fun e w' => (∃ q, e = .returned (.pointer (some ⟨q, 0, none⟩)) ∧ ApIs w' w.heap.size w'.heap.size q a) ∧ Upd [] w w' := by
  have H := hide h; have OK := hide ho
  clear h ho
  go_enter Tryz.func11, Tryz.ntmps11
  go_wp2_with fail
  refine (astate_any w H.out OK.out hi).mono ?_
  rintro e w1 ⟨⟨b1, g1, rfl, h1, h2, h3⟩, hu⟩
  have S1 := hide h1; have U1 := hide hu; have H1 := hide (H.out.upd_nil hu)
  clear h1 hu
  go_wp2_with fail
  refine (atable_any w1 H1.out OK.out hi).mono ?_
  rintro e w2 ⟨⟨b2, c2, g2, rfl, h4, h5, h6, h7⟩, hu⟩
  have S2 := hide (S1.out.upd_nil hu); have T2 := hide h4; have U2 := hide (U1.out.trans hu); have H2 := hide (H1.out.upd_nil hu)
  have hz1 := U1.out.size
  clear h4 hu
  go_wp2_with fail
  refine (acount_any w2 H2.out).mono ?_
  rintro e w3 ⟨rfl, rfl⟩
  go_wp2_with fail
  go_ret
  have l0 := blk_lt S1.out.blk; have l1 := MapKind.is_lt S1.out.map
  have l2 := blk_lt T2.out.blk; have l3 := blk_lt T2.out.cli; have l4 := MapKind.is_lt T2.out.map
  have hz := U2.out.size
  have m0 := blk_lt S2.out.blk; have m1 := MapKind.is_lt S2.out.map
  refine ⟨⟨_, rfl, b1, g1, b2, c2, g2, ⟨blk_new w2 _, S2.out.upd_nil ((Upd.refl [] w2).alloc _), T2.out.upd_nil ((Upd.refl [] w2).alloc _), by omega⟩, ?_⟩, U2.out.alloc _⟩
  simp only [World.size_alloc]
  omega
end Go.Proofs.YthpnnffogbjhpaaGreatDoor.Kv
namespace Go.Proofs.YthpnnffogbjhpaaGreatDoor.Kv
set_option linter.unusedSimpArgs false
set_option linter.unusedVariables false
open Go.RowKit Go.Lib Go.Proofs.YthpnnffogbjhpaaGreatDoor.Crc Go.Proofs.YthpnnffogbjhpaaGreatDoor.Cm

/-- What is behind the look. -/
def Looked (w1 : World) (q : Rp) (n : Nat) (s6 s7 : Value) (wx : World) : Prop := ∃ R, s6 = .pointer (some ⟨R, 0, none⟩) ∧ s7 = .int .u8 (n : Int) ∧ wx.heap[R]? = some (.cells #[.int .u8 (q.code : Int), .string (strOf q.text)] TRp (0, 0)) ∧ w1.heap.size ≤ R ∧ Upd [] w1 wx
theorem Looked.mk {w1 wx : World} {q : Rp} {n R : Nat} (h : wx.heap[R]? = some (.cells #[.int .u8 (q.code : Int), .string (strOf q.text)] TRp (0, 0))) (h1 : w1.heap.size ≤ R) (h2 : Upd [] w1 wx) : Looked w1 q n (.pointer (some ⟨R, 0, none⟩)) (.int .u8 (n : Int)) wx := ⟨R, rfl, rfl, h, h1, h2⟩
noncomputable def adoOps6 : Array Oper := findOps 6 ((Tryz.f13.body).getD .skip)
noncomputable def adoOps7 : Array Oper := findOps 7 ((Tryz.f13.body).getD .skip)

set_option maxRecDepth 100000 in
set_option maxHeartbeats 4000000 in
theorem ado_any {T : Nat → Prop} {v : Value} {c : Cm} {lo hi p i : Nat} {a : Ap} (w : World) (he : EnvAt w) (h : ApIs w lo hi p a) (ho : ApOk a i) (hi4 : i ≤ 10000) (hc : CmAt w T v c) :
    Calls Tryz.prog 13 #[.pointer (some ⟨p, 0, none⟩), v] w fun e w' => e = .returned (.tuple #[rpv (apDo a c).2.1, .bool (apDo a c).2.2]) ∧ ApIs w' lo hi p (apDo a c).1 ∧ Turned lo hi w w' := by
  obtain ⟨fit, ks, rfl, hks⟩ := hc
  obtain ⟨xo, cp, rfl, h1, h2, hget⟩ := hks.get
  obtain ⟨r, hr⟩ : ∃ r, apDo a c = r := ⟨_, rfl⟩
  rw [hr]
  obtain ⟨sb, sg, tb, tc, tg, hA, hin⟩ := h
  have ENV := hide he; have AP := hide hA; have OK := hide ho; have KS := hide hks; have FIT := hide fit; have HR := hide hr; have HIN := hide hin
  have hpl := blk_lt hA.blk
  simp only [maxLen] at h2
  clear hA ho hget hks fit hr he hin
  unfold cmv
  simp only [strV]
  go_enter Tryz.func13, Tryz.ntmps13
  go_upto_region 1 with fail
  have hB := blk_alloc (blk_new w (.cells (cmc c (.slice xo c.keys.length cp)).toArray TCmd)) (.cells #[.int .u8 0, .string ⟨#[]⟩] TRp)
  have hR := blk_new (w.alloc (.cells (cmc c (.slice xo c.keys.length cp)).toArray TCmd)) (.cells #[.int .u8 0, .string ⟨#[]⟩] TRp)
  have hu := ((Upd.refl [] w).alloc (.cells (cmc c (.slice xo c.keys.length cp)).toArray TCmd)).alloc (.cells #[.int .u8 0, .string ⟨#[]⟩] TRp)
  simp only [World.size_alloc] at hR
  have hsz : ((w.alloc (.cells (cmc c (.slice xo c.keys.length cp)).toArray TCmd)).alloc (.cells #[.int .u8 0, .string ⟨#[]⟩] TRp)).heap.size = w.heap.size + 2 := by simp
  change Code.wp _ _ _ _ ((w.alloc (.cells (cmc c (.slice xo c.keys.length cp)).toArray TCmd)).alloc (.cells #[.int .u8 0, .string ⟨#[]⟩] TRp))
  generalize (w.alloc (.cells (cmc c (.slice xo c.keys.length cp)).toArray TCmd)).alloc (.cells #[.int .u8 0, .string ⟨#[]⟩] TRp) = w1 at *
  have CB := hide hB; have CR := hide hR; have U1 := hide hu; have A1 := hide (AP.out.upd hu (by simp) (by simp) (by simp) (by simp) (by simp) (by simp))
  obtain ⟨B, hBs⟩ : ∃ B, w.heap.size = B := ⟨_, rfl⟩
  have KB := hide hBs
  rw [hBs] at hsz CB CR ⊢
  clear hB hR hu hBs
  obtain ⟨b0, b1, b2, b3, b4, b5, b6⟩ := cell7 CB.out
  by_cases h0 : c.client = 0
  · have q0 : ((c.client : Int) == 0) = true := by simp; omega
    have hrr : r = (a, ⟨2, []⟩, false) := by rw [← HR.out, apDo_none h0]
    have HG := hide hrr
    obtain ⟨z0, z1, f0, f1, z2, f2⟩ := res_facts CR.out
    clear hrr h0
    go_wp2_with fail
    have hW := upd2 w1 (B + 1) (.int .u8 2) (.string ⟨#[]⟩)
    have hBs := KB.out
    have hU := U1.out.trans_new hW (fun k hk => .inr (by simp at hk; omega))
    refine ret_rp2 (stored2 CR.out) rfl rfl rfl rfl ?_
    rw [HG.out]
    exact ⟨rfl, ⟨sb, sg, tb, tc, tg, AP.out.upd hU (by simp) (by simp) (by simp) (by simp) (by simp) (by simp), HIN.out⟩, Turned.of_nil hU _ _⟩
  have q0 : ((c.client : Int) == 0) = false := by simp; omega
  have H0 := hide h0
  clear h0
  obtain ⟨q, nq, hlk⟩ : ∃ q n, lookM a.t c.client c.seq = (q, n) := ⟨_, _, rfl⟩
  have HLK := hide hlk
  clear hlk
  have s0 : Upd [] w1 (w1.drewN 1) := (Upd.refl _ _).drewN 1
  have hcl := FIT.out.1
  go_upto_region 3 with fail
  clear b0 b1 b2 b3 b4 b5 b6
  go_cut [6, 7] (fun s6 s7 wx => Looked w1 q nq s6 s7 wx)
  case first =>
    as_aux_lemma =>
    refine wp_region_z (fun w' => Upd [] w1 w') 99 (by kernel_rfl) ?_
    refine zE 0 rfl (by kernel_rfl) (fun _ _ _ _ h => h) rfl (by exact s0) ?_
    apply Exists.intro
    refine ⟨fun wx hS => ?_, ?_⟩
    · go_simp; rfl
    simp only [Act.put, List.setIfInBounds_toArray, List.set_cons_succ, List.set_cons_zero, List.getElem_toArray, List.getElem_cons_zero]
    refine zE 1 rfl (by kernel_rfl) (fun _ _ _ _ h => h) rfl (by exact s0) ?_
    apply Exists.intro
    refine ⟨fun wx hS => ?_, ?_⟩
    · go_simp; rfl
    simp only [Act.put, zz1, zz2, zz3, zz4, zz5, zz6]
    refine zE 2 rfl (by kernel_rfl) (fun _ _ _ _ h => h) rfl (by exact s0) ?_
    apply Exists.intro
    refine ⟨fun wx hS => ?_, ?_⟩
    · go_simp; rfl
    simp only [Act.put, zz1, zz2, zz3, zz4, zz5, zz6]
    refine zE 3 rfl (by kernel_rfl) (fun _ _ _ _ h => h) rfl (by exact s0) ?_
    apply Exists.intro
    refine ⟨fun wx hS => ?_, ?_⟩
    · go_simp; rfl
    simp only [Act.put, zz1, zz2, zz3, zz4, zz5, zz6]
    refine zE 4 rfl (by kernel_rfl) (fun _ _ _ _ h => h) rfl (by exact s0) ?_
    apply Exists.intro
    refine ⟨fun wx hS => ?_, ?_⟩
    · have c0 : wx.cell? ⟨p, 1, none⟩ = some (.pointer (some ⟨tb, 0, none⟩)) := blk_cell (hS.get A1.out.blk (by simp)) rfl; go_simp; rfl
    simp only [Act.put, zz1, zz2, zz3, zz4, zz5, zz6]
    refine zE 5 rfl (by kernel_rfl) (fun _ _ _ _ h => h) rfl (by exact s0) ?_
    apply Exists.intro
    refine ⟨fun wx hS => ?_, ?_⟩
    · go_simp; rfl
    simp only [Act.put, zz1, zz2, zz3, zz4, zz5, zz6]
    refine zE 6 rfl (by kernel_rfl) (fun _ _ _ _ h => h) rfl (by exact s0) ?_
    apply Exists.intro
    refine ⟨fun wx hS => ?_, ?_⟩
    · have c0 : wx.cell? ⟨B, 0, none⟩ = some (.int .u32 (c.client : Int)) := blk_cell (hS.get CB.out (by simp)) rfl; go_simp; rfl
    simp only [Act.put, zz1, zz2, zz3, zz4, zz5, zz6]
    refine zE 7 rfl (by kernel_rfl) (fun _ _ _ _ h => h) rfl (by exact s0) ?_
    apply Exists.intro
    refine ⟨fun wx hS => ?_, ?_⟩
    · go_simp; rfl
    simp only [Act.put, zz1, zz2, zz3, zz4, zz5, zz6]
    refine zE 8 rfl (by kernel_rfl) (fun _ _ _ _ h => h) rfl (by exact s0) ?_
    apply Exists.intro
    refine ⟨fun wx hS => ?_, ?_⟩
    · have c0 : wx.cell? ⟨B, 1, none⟩ = some (.int .u32 (c.seq : Int)) := blk_cell (hS.get CB.out (by simp)) rfl; go_simp; rfl
    simp only [Act.put, zz1, zz2, zz3, zz4, zz5, zz6]
    refine wpAnyZ_two 9 13 (by kernel_rfl) rfl rfl rfl rfl (fun K hK => ?_) (fun K hK => ?_)
    · try simp only [List.getElem_toArray, List.getElem_cons_succ, List.getElem_cons_zero]
      go_simp
      refine (look_any (w1.drewN 1) (A1.out.tab.upd_nil s0) hcl).mono ?_
      rw [HLK.out]
      rintro e w2 ⟨rfl, hu2⟩
      have V2 := hide (s0.trans hu2)
      clear hu2
      refine hK _ _ (.inr V2.out) ?_
      clear hK K
      try simp only [Act.put, zz1, zz2, zz3]
      unfold rpv
      refine zE 10 rfl (by kernel_rfl) (fun _ _ _ _ h => h) rfl (by exact V2.out) ?_
      apply Exists.intro
      refine ⟨fun wx hS => ?_, ?_⟩
      · go_simp; rfl
      simp only [Act.put, zz1, zz2, zz3, zz4, zz5, zz6]
      refine zE 11 rfl (by kernel_rfl) (fun _ _ _ _ h => h) rfl (by exact V2.out) ?_
      apply Exists.intro
      refine ⟨fun wx hS => ?_, ?_⟩
      · go_simp; rfl
      simp only [Act.put, zz1, zz2, zz3, zz4, zz5, zz6]
      refine zE 12 rfl (by kernel_rfl) (fun _ _ _ _ h => h) rfl (by exact V2.out) ?_
      apply Exists.intro
      refine ⟨fun wx hS => ?_, ?_⟩
      · go_simp; rfl
      simp only [Act.put, zz1, zz2, zz3, zz4, zz5, zz6]
      refine wpAnyZ_one 13 (by kernel_rfl) rfl rfl (fun K hK => ?_)
      try simp only [List.getElem_toArray, List.getElem_cons_succ, List.getElem_cons_zero]
      go_simp
      have hN := blk_new w2 (.cells #[.int .u8 0, .string ⟨#[]⟩] TRp)
      have V3 := hide (V2.out.alloc (.cells #[.int .u8 0, .string ⟨#[]⟩] TRp))
      generalize w2.alloc (.cells #[.int .u8 0, .string ⟨#[]⟩] TRp) = w3 at *
      have CN := hide hN
      have hR := V2.out.size
      generalize w2.heap.size = R at *
      clear hN
      refine hK _ _ (.inr V3.out) ?_
      clear hK K
      try simp only [Act.put, zz1, zz2, zz3]
      refine wpAnyZ_one 14 (by kernel_rfl) rfl rfl (fun K hK => ?_)
      try simp only [List.getElem_toArray, List.getElem_cons_succ, List.getElem_cons_zero]
      obtain ⟨z0, z1, f0, f1, z2, f2⟩ := res_facts CN.out
      go_simp
      have hW := upd2 w3 R (.int .u8 (q.code : Int)) (.string (strOf q.text))
      have V4 := hide (V3.out.trans_new hW (fun k hk => .inr (by simp at hk; omega)))
      clear z0 z1 f0 f1 z2 f2 hW
      refine hK _ _ (.inr V4.out) ?_
      clear hK K
      try simp only [Act.put, zz1, zz2, zz3]
      refine wpAnyZ_one 15 (by kernel_rfl) rfl rfl (fun K hK => ?_)
      try simp only [List.getElem_toArray, List.getElem_cons_succ, List.getElem_cons_zero]
      go_simp
      refine hK _ _ (.inr V4.out) ?_
      clear hK K
      try simp only [Act.put, zz1, zz2, zz3]
      refine wpAnyZ_done (by kernel_rfl) ?_ _
      go_wp2_with fail
      go_meet
      exact Looked.mk (stored2 CN.out) (by omega) V4.out
    · try simp only [List.getElem_toArray, List.getElem_cons_succ, List.getElem_cons_zero]
      go_simp
      have hN := blk_new (w1.drewN 1) (.cells #[.int .u8 0, .string ⟨#[]⟩] TRp)
      have V0 := hide (s0.alloc (.cells #[.int .u8 0, .string ⟨#[]⟩] TRp))
      generalize (w1.drewN 1).alloc (.cells #[.int .u8 0, .string ⟨#[]⟩] TRp) = w2 at *
      rw [show (w1.drewN 1).heap.size = B + 2 from hsz] at hN
      have CN0 := hide hN
      clear hN
      generalize B + 2 = R at *
      refine hK _ _ (.inr V0.out) ?_
      clear hK K
      try simp only [Act.put, zz1, zz2, zz3]
      refine wpAnyZ_one 9 (by kernel_rfl) rfl rfl (fun K hK => ?_)
      try simp only [List.getElem_toArray, List.getElem_cons_succ, List.getElem_cons_zero]
      go_simp
      refine (look_any w2 (A1.out.tab.upd_nil V0.out) hcl).mono ?_
      rw [HLK.out]
      rintro e w3 ⟨rfl, hu3⟩
      have V3 := hide (V0.out.trans hu3); have CN := hide (hu3.get CN0.out (by simp))
      clear hu3
      refine hK _ _ (.inr V3.out) ?_
      clear hK K
      try simp only [Act.put, zz1, zz2, zz3]
      unfold rpv
      refine zE 10 rfl (by kernel_rfl) (fun _ _ _ _ h => h) rfl (by exact V3.out) ?_
      apply Exists.intro
      refine ⟨fun wx hS => ?_, ?_⟩
      · go_simp; rfl
      simp only [Act.put, zz1, zz2, zz3, zz4, zz5, zz6]
      refine zE 11 rfl (by kernel_rfl) (fun _ _ _ _ h => h) rfl (by exact V3.out) ?_
      apply Exists.intro
      refine ⟨fun wx hS => ?_, ?_⟩
      · go_simp; rfl
      simp only [Act.put, zz1, zz2, zz3, zz4, zz5, zz6]
      refine zE 12 rfl (by kernel_rfl) (fun _ _ _ _ h => h) rfl (by exact V3.out) ?_
      apply Exists.intro
      refine ⟨fun wx hS => ?_, ?_⟩
      · go_simp; rfl
      simp only [Act.put, zz1, zz2, zz3, zz4, zz5, zz6]
      refine wpAnyZ_one 14 (by kernel_rfl) rfl rfl (fun K hK => ?_)
      try simp only [List.getElem_toArray, List.getElem_cons_succ, List.getElem_cons_zero]
      obtain ⟨z0, z1, f0, f1, z2, f2⟩ := res_facts CN.out
      go_simp
      have hW := upd2 w3 R (.int .u8 (q.code : Int)) (.string (strOf q.text))
      have V4 := hide (V3.out.trans_new hW (fun k hk => .inr (by simp at hk; omega)))
      clear z0 z1 f0 f1 z2 f2 hW
      refine hK _ _ (.inr V4.out) ?_
      clear hK K
      try simp only [Act.put, zz1, zz2, zz3]
      refine wpAnyZ_one 15 (by kernel_rfl) rfl rfl (fun K hK => ?_)
      try simp only [List.getElem_toArray, List.getElem_cons_succ, List.getElem_cons_zero]
      go_simp
      refine hK _ _ (.inr V4.out) ?_
      clear hK K
      try simp only [Act.put, zz1, zz2, zz3]
      refine wpAnyZ_done (by kernel_rfl) ?_ _
      go_wp2_with fail
      go_meet
      exact Looked.mk (stored2 CN.out) (by omega) V4.out
  case rest =>
    obtain ⟨R, rfl, rfl, hRc, hRs, huc⟩ := hcut
    have CN := hide hRc; have UC := hide huc
    have CBc := hide (huc.get CB.out (by simp)); have CRc := hide (huc.get CR.out (by simp)); have Uc := hide (U1.out.trans huc)
    have Ac := hide (A1.out.upd huc (by simp) (by simp) (by simp) (by simp) (by simp) (by simp))
    have hRl := blk_lt hRc
    clear hRc huc s0
    by_cases hn : nq = 0
    · have d0 : ((nq : Int) != 0) = false := by simp; omega
      have d1 : ((nq : Int) == 0) = true := by simp; omega
      obtain ⟨m', rr, hkv⟩ : ∃ m' rr, kvDo a.m c = (m', rr) := ⟨_, _, rfl⟩
      have hg : r = (⟨m', mput cliK a.t c.client ⟨c.seq, rr⟩, a.n + 1⟩, rr, true) := by
        rw [← HR.out]
        unfold apDo
        rw [if_neg H0.out, HLK.out, if_pos hn, hkv]
      have HG := hide hg; have HKV := hide hkv; have HN := hide hn
      clear hg hkv
      have hns := Ac.out.nes
      have hgB : p < B ∧ sb < B ∧ sg < B ∧ tb < B ∧ tc < B ∧ tg < B := by
        have h1 := blk_lt AP.out.blk; have h2 := blk_lt AP.out.st.blk; have h3 := MapKind.is_lt AP.out.st.map; have h4 := blk_lt AP.out.tab.blk; have h5 := blk_lt AP.out.tab.cli; have h6 := MapKind.is_lt AP.out.tab.map
        have := KB.out
        omega
      have hstn := AP.out.ne
      have NS := hide hns; have GB := hide hgB; have NE := hide hstn
      have hdo := do_any (c := c) (T := T) (v := cmv c (.slice xo c.keys.length cp)) (wc.drewN 1) (ENV.out.upd_nil (Uc.out.drewN 1)) (Ac.out.st.upd_nil ((Upd.refl [] wc).drewN 1)) OK.out.kv ⟨FIT.out, _, rfl, KS.out.upd_nil (Uc.out.drewN 1)⟩ (by have := OK.out.len; omega)
      rw [HKV.out] at hdo
      simp only [cmv, strV] at hdo
      have HDO := hide hdo
      clear hns hgB hstn hdo
      go_upto_region 6 with fail
      refine wp_region_seq adoOps6 (by kernel_rfl) [6, 7] (Upd [sg, R] wc) (by kernel_rfl) (by kernel_rfl) (fun _ _ d _ _ h => by cases d <;> exact h) ((Upd.refl _ _).drewN 1) ?_
      refine wpSeq_take (by kernel_rfl) (by kernel_rfl) ?_
      apply Exists.intro
      refine ⟨fun wx hS => ?_, fun a' ha => ?_⟩
      · go_simp; rfl
      simp only [Act.put, zz1, zz2, zz3] at ha
      subst ha
      refine wpSeq_take (by kernel_rfl) (by kernel_rfl) ?_
      apply Exists.intro
      refine ⟨fun wx hS => ?_, fun a' ha => ?_⟩
      · go_simp; rfl
      simp only [Act.put, zz1, zz2, zz3] at ha
      subst ha
      refine wpSeq_take (by kernel_rfl) (by kernel_rfl) ?_
      apply Exists.intro
      refine ⟨fun wx hS => ?_, fun a' ha => ?_⟩
      · go_simp; rfl
      simp only [Act.put, zz1, zz2, zz3] at ha
      subst ha
      refine wpSeq_take (by kernel_rfl) (by kernel_rfl) ?_
      apply Exists.intro
      refine ⟨fun wx hS => ?_, fun a' ha => ?_⟩
      · go_simp; rfl
      simp only [Act.put, zz1, zz2, zz3] at ha
      subst ha
      refine wpSeq_take (by kernel_rfl) (by kernel_rfl) ?_
      apply Exists.intro
      refine ⟨fun wx hS => ?_, fun a' ha => ?_⟩
      · have c0 : wx.cell? ⟨p, 0, none⟩ = some (.pointer (some ⟨sb, 0, none⟩)) := blk_cell (hS.get Ac.out.blk (by have := NS.out; have := GB.out; simp; omega)) rfl; go_simp; rfl
      simp only [Act.put, zz1, zz2, zz3] at ha
      subst ha
      refine wpSeq_take (by kernel_rfl) (by kernel_rfl) ?_
      apply Exists.intro
      refine ⟨fun wx hS => ?_, fun a' ha => ?_⟩
      · obtain ⟨b0, b1, b2, b3, b4, b5, b6⟩ := cell7 (hS.get CBc.out (by have := GB.out; simp; omega)); go_simp; rfl
      simp only [Act.put, zz1, zz2, zz3] at ha
      subst ha
      refine wpSeq_one (by kernel_rfl) (by kernel_rfl) (fun K hK => ?_)
      go_simp
      refine HDO.out.mono ?_
      rintro e w3 ⟨rfl, hs3, hu3⟩
      unfold rpv
      have hd3 : Upd [sg, R] wc w3 := ((Upd.refl _ _).drewN 1).trans (hu3.mono (by simp))
      have D3 := hide hd3; have S3 := hide hs3
      have CN3 := hide (hu3.get (show (wc.drewN 1).heap[R]? = _ from CN.out) (by have := GB.out; simp; omega))
      have hg3 : Upd [sg] wc w3 := ((Upd.refl _ _).drewN 1).trans hu3
      have CB3 := hide (hg3.get CBc.out (by have := GB.out; simp; omega)); have CR3 := hide (hg3.get CRc.out (by have := GB.out; simp; omega)); have P3 := hide (hg3.get Ac.out.blk (by have := NS.out; simp; omega))
      have T3 := hide (Ac.out.tab.upd hg3 (by have := NS.out; simp; omega) (by have := NS.out; simp; omega) (by have := NE.out; simp; omega))
      have hz3 := hd3.size
      clear hs3 hu3 hg3
      refine hK _ _ (hd3) ?_
      clear hK K
      try simp only [Act.put, zz1, zz2, zz3]
      clear hd3
      refine wpSeq_one (by kernel_rfl) (by kernel_rfl) (fun K hK => ?_)
      obtain ⟨z0, z1, f0, f1, z2, f2⟩ := res_facts CN3.out
      go_simp
      have hW := upd2 w3 R (.int .u8 (rr.code : Int)) (.string (strOf rr.text))
      refine hK _ _ (D3.out.trans (hW.mono (by simp))) ?_
      clear hK K
      try simp only [Act.put, zz1, zz2, zz3]
      unfold wpSeq
      clear z0 z1 f0 f1 z2 f2
      have CN4 := hide (stored2 (v0 := .int .u8 (rr.code : Int)) (v1 := .string (strOf rr.text)) CN3.out)
      have S4 := hide (S3.out.upd hW (by have := GB.out; simp; omega) (by have := GB.out; simp; omega)); have T4 := hide (T3.out.upd hW (by have := GB.out; simp; omega) (by have := GB.out; simp; omega) (by have := GB.out; simp; omega))
      have CB4 := hide (hW.get CB3.out (by have := GB.out; simp; omega)); have CR4 := hide (hW.get CR3.out (by have := GB.out; simp; omega)); have P4 := hide (hW.get P3.out (by have := GB.out; simp; omega))
      have D4 := hide (D3.out.trans (hW.mono (by simp)))
      have hzw := size_setCell (w3.setCell ⟨R, 0, none⟩ (.int .u8 (rr.code : Int))) ⟨R, 1, none⟩ (.string (strOf rr.text))
      rw [size_setCell] at hzw
      clear hW S3 T3 CB3 CR3 P3 CN3 D3
      generalize (w3.setCell ⟨R, 0, none⟩ (.int .u8 (rr.code : Int))).setCell ⟨R, 1, none⟩ (.string (strOf rr.text)) = w4 at *
      have hkp := keep_any (r := rr) (seq := c.seq) (w4.drewN 1) (T4.out.upd_nil ((Upd.refl [] w4).drewN 1)) FIT.out.1 H0.out (by rw [HLK.out]; exact HN.out) (by have := OK.out.tab; omega)
      have hnw : a.n + 1 < 18446744073709551616 := by have := OK.out.n; omega
      unfold rpv at hkp
      have HKP := hide hkp
      clear hkp
      go_upto_region 7 with fail
      refine wp_region_seq adoOps7 (by kernel_rfl) [10] (Upd [tg] w4) (by kernel_rfl) (by kernel_rfl) (fun _ _ d _ _ h => by cases d <;> exact h) ((Upd.refl _ _).drewN 1) ?_
      refine wpSeq_take (by kernel_rfl) (by kernel_rfl) ?_
      apply Exists.intro
      refine ⟨fun wx hS => ?_, fun a' ha => ?_⟩
      · go_simp; rfl
      simp only [Act.put, zz1, zz2, zz3] at ha
      subst ha
      refine wpSeq_take (by kernel_rfl) (by kernel_rfl) ?_
      apply Exists.intro
      refine ⟨fun wx hS => ?_, fun a' ha => ?_⟩
      · go_simp; rfl
      simp only [Act.put, zz1, zz2, zz3] at ha
      subst ha
      refine wpSeq_take (by kernel_rfl) (by kernel_rfl) ?_
      apply Exists.intro
      refine ⟨fun wx hS => ?_, fun a' ha => ?_⟩
      · go_simp; rfl
      simp only [Act.put, zz1, zz2, zz3] at ha
      subst ha
      refine wpSeq_take (by kernel_rfl) (by kernel_rfl) ?_
      apply Exists.intro
      refine ⟨fun wx hS => ?_, fun a' ha => ?_⟩
      · go_simp; rfl
      simp only [Act.put, zz1, zz2, zz3] at ha
      subst ha
      refine wpSeq_take (by kernel_rfl) (by kernel_rfl) ?_
      apply Exists.intro
      refine ⟨fun wx hS => ?_, fun a' ha => ?_⟩
      · have c0 : wx.cell? ⟨p, 1, none⟩ = some (.pointer (some ⟨tb, 0, none⟩)) := blk_cell (hS.get P4.out (by have := NS.out; simp; omega)) rfl; go_simp; rfl
      simp only [Act.put, zz1, zz2, zz3] at ha
      subst ha
      refine wpSeq_take (by kernel_rfl) (by kernel_rfl) ?_
      apply Exists.intro
      refine ⟨fun wx hS => ?_, fun a' ha => ?_⟩
      · go_simp; rfl
      simp only [Act.put, zz1, zz2, zz3] at ha
      subst ha
      refine wpSeq_take (by kernel_rfl) (by kernel_rfl) ?_
      apply Exists.intro
      refine ⟨fun wx hS => ?_, fun a' ha => ?_⟩
      · obtain ⟨b0, b1, b2, b3, b4, b5, b6⟩ := cell7 (hS.get CB4.out (by have := GB.out; simp; omega)); go_simp; rfl
      simp only [Act.put, zz1, zz2, zz3] at ha
      subst ha
      refine wpSeq_take (by kernel_rfl) (by kernel_rfl) ?_
      apply Exists.intro
      refine ⟨fun wx hS => ?_, fun a' ha => ?_⟩
      · go_simp; rfl
      simp only [Act.put, zz1, zz2, zz3] at ha
      subst ha
      refine wpSeq_take (by kernel_rfl) (by kernel_rfl) ?_
      apply Exists.intro
      refine ⟨fun wx hS => ?_, fun a' ha => ?_⟩
      · obtain ⟨b0, b1, b2, b3, b4, b5, b6⟩ := cell7 (hS.get CB4.out (by have := GB.out; simp; omega)); go_simp; rfl
      simp only [Act.put, zz1, zz2, zz3] at ha
      subst ha
      refine wpSeq_take (by kernel_rfl) (by kernel_rfl) ?_
      apply Exists.intro
      refine ⟨fun wx hS => ?_, fun a' ha => ?_⟩
      · obtain ⟨y0, y1, -, -, -, -⟩ := res_facts (hS.get CN4.out (by have := GB.out; simp; omega)); go_simp; rfl
      simp only [Act.put, zz1, zz2, zz3] at ha
      subst ha
      refine wpSeq_one (by kernel_rfl) (by kernel_rfl) (fun K hK => ?_)
      go_simp
      refine HKP.out.mono ?_
      rintro e w5 ⟨rfl, ht5, hu5⟩
      have hg5 : Upd [tg] w4 w5 := ((Upd.refl _ _).drewN 1).trans hu5
      have CN5 := hide (hg5.get CN4.out (by have := GB.out; simp; omega)); have CR5 := hide (hg5.get CR4.out (by have := GB.out; simp; omega)); have P5 := hide (hg5.get P4.out (by have := NS.out; simp; omega))
      have S5 := hide (S4.out.upd hg5 (by have := NS.out; simp; omega) (by have := NE.out; simp; omega)); have T5 := hide ht5
      have D5 := hide ((D4.out.mono (T := [sg, tg, R]) (by simp +contextual)).trans (hg5.mono (by simp)))
      have hz5 := hg5.size
      clear ht5 hu5 S4 T4 D4
      refine hK _ _ (hg5) ?_
      clear hK K
      try simp only [Act.put, zz1, zz2, zz3]
      clear hg5
      unfold wpSeq
      have c2 : w5.cell? ⟨p, 2, none⟩ = some (.int .u64 (a.n : Int)) := blk_cell P5.out rfl
      have f2 : w5.frozen? ⟨p, 2, none⟩ = false := blk_free P5.out
      have e1 : IntKind.u64.wrap ((a.n : Int) + 1) = ((a.n + 1 : Nat) : Int) := by rw [IntWalk.u64_in _ (by omega)]; omega
      have hP := blk_set (i := 2) P5.out (.int .u64 ((a.n + 1 : Nat) : Int))
      simp only [List.setIfInBounds_toArray, List.set_cons_succ, List.set_cons_zero] at hP
      have hW6 : Upd [p] w5 (w5.setCell ⟨p, 2, none⟩ (.int .u64 ((a.n + 1 : Nat) : Int))) := (Upd.refl [p] w5).setCell (p := ⟨p, 2, none⟩) (.inl (by simp)) _
      obtain ⟨nn, hnn⟩ : ∃ nn, a.n + 1 = nn := ⟨_, rfl⟩
      rw [hnn] at hP hW6 e1 hnw
      have HNN := hide hnn
      have P6 := hide hP; have W6 := hide hW6
      clear hP hW6 hnn
      go_upto_region 9 with fail
      clear c2 f2 e1
      have hW7 := W6.out
      have CN6 := hide (hW7.get CN5.out (by have := GB.out; simp; omega)); have CR6 := hide (hW7.get CR5.out (by have := GB.out; simp; omega))
      have S6 := hide (S5.out.upd hW7 (by have := NS.out; simp; omega) (by have := NS.out; simp; omega)); have T6 := hide (T5.out.upd hW7 (by have := NS.out; simp; omega) (by have := NS.out; simp; omega) (by have := NS.out; simp; omega))
      have D6 := hide ((D5.out.mono (T := [p, sg, tg, R]) (by simp +contextual)).trans (hW7.mono (by simp)))
      have hz6 := hW7.size
      clear hW7 W6 S5 T5 D5 CN5 CR5 P5
      generalize w5.setCell ⟨p, 2, none⟩ (.int .u64 (nn : Int)) = w6 at *
      obtain ⟨y0, y1, -, -, -, -⟩ := res_facts CN6.out
      obtain ⟨z0, z1, f0, f1, z2, f2⟩ := res_facts CR6.out
      go_wp2_with fail
      have hW := upd2 w6 (B + 1) (.int .u8 (rr.code : Int)) (.string (strOf rr.text))
      have hBs := KB.out
      have hgb := GB.out
      have hU : Upd [p, sg, tg] w _ := (Uc.out.mono (by simp)).trans_new ((D6.out.mono (T := [p, sg, tg, R, B + 1]) (by simp +contextual)).trans (hW.mono (by simp))) (fun k hk => by have := UC.out.size; simp at hk ⊢; omega)
      refine ret_rp2 (stored2 CR6.out) rfl rfl rfl rfl ?_
      rw [HG.out]
      have hin := HIN.out
      refine ⟨rfl, ⟨sb, sg, tb, tc, tg, ⟨?_, S6.out.upd hW (by simp; omega) (by simp; omega), T6.out.upd hW (by simp; omega) (by simp; omega) (by simp; omega), NE.out⟩, hin⟩, [p, sg, tg], fun k hk => ?_, hU⟩
      · have := hW.get P6.out (by simp; omega)
        rw [← HNN.out] at this
        exact this
      · simp at hk
        rcases hk with rfl | rfl | rfl <;> omega
    · have d0 : ((nq : Int) != 0) = true := by simp; omega
      have d1 : ((nq : Int) == 0) = false := by simp; omega
      have hg : r = (a, q, false) := by
        rw [← HR.out]
        unfold apDo
        rw [if_neg H0.out, HLK.out, if_neg hn]
      have HG := hide hg
      obtain ⟨y0, y1, -, -, -, -⟩ := res_facts CN.out
      obtain ⟨z0, z1, f0, f1, z2, f2⟩ := res_facts CRc.out
      clear hg hn
      go_wp2_with fail
      have hW := upd2 wc (B + 1) (.int .u8 (q.code : Int)) (.string (strOf q.text))
      have hBs := KB.out
      have hU := Uc.out.trans_new hW (fun k hk => .inr (by simp at hk; omega))
      refine ret_rp2 (stored2 CRc.out) rfl rfl rfl rfl ?_
      rw [HG.out]
      exact ⟨rfl, ⟨sb, sg, tb, tc, tg, AP.out.upd hU (by simp) (by simp) (by simp) (by simp) (by simp) (by simp), HIN.out⟩, Turned.of_nil hU _ _⟩
end Go.Proofs.YthpnnffogbjhpaaGreatDoor.Kv
namespace Go.Proofs.YthpnnffogbjhpaaGreatDoor.Kv
set_option linter.unusedSimpArgs false
set_option linter.unusedVariables false
open Go.RowKit Go.Lib Go.Proofs.YthpnnffogbjhpaaGreatDoor.Crc Go.Proofs.YthpnnffogbjhpaaGreatDoor.Cm
noncomputable def asameOps : Array Oper := findOps 2 ((Tryz.f16.body).getD .skip)
set_option maxRecDepth 100000 in
set_option maxHeartbeats 4000000 in
theorem asame_any {lo1 hi1 p1 lo2 hi2 p2 i : Nat} {a : Ap} (w : World) (h1 : ApIs w lo1 hi1 p1 a) (h2 : ApIs w lo2 hi2 p2 a) (o1 : ApOk a i) (hi4 : i ≤ 10000) :
    Calls Tryz.prog 16 #[.pointer (some ⟨p1, 0, none⟩), .pointer (some ⟨p2, 0, none⟩)] w fun e w' => e = .returned (.bool true) ∧ Upd [] w w' := by
  have o2 := o1
  have H1 := hide h1; have H2 := hide h2; have OK1 := hide o1; have OK2 := hide o2
  clear h1 h2 o1 o2
  go_enter Tryz.func16, Tryz.ntmps16
  go_wp2_with fail
  refine (acopy_any w H1.out OK1.out hi4).mono ?_
  rintro e w1 ⟨⟨q1, rfl, hq1⟩, hu1⟩
  have Q1 := hide hq1; have U1 := hide hu1; have H21 := hide (H2.out.upd_nil hu1)
  clear hq1 hu1
  go_wp2_with fail
  refine (acopy_any w1 H21.out OK2.out hi4).mono ?_
  rintro e w2 ⟨⟨q2, rfl, hq2⟩, hu2⟩
  have U2 := hide (U1.out.trans hu2)
  obtain ⟨sb1, sg1, tb1, tc1, tg1, hA1, -⟩ := Q1.out.upd_nil hu2
  obtain ⟨sb2, sg2, tb2, tc2, tg2, hA2, -⟩ := hq2
  have A1 := hide hA1; have A2 := hide hA2
  clear hu2 hA1 hA2
  go_upto_region 2 with fail
  have qn : ((a.n : Int) == (a.n : Int)) = true := by simp
  refine wp_region_seq asameOps (by kernel_rfl) [22, 35] (Upd [] w2) (by kernel_rfl) (by kernel_rfl) (fun _ _ d _ _ h => by cases d <;> exact h) ((Upd.refl _ _).drewN 1) ?_
  refine wpSeq_take (by kernel_rfl) (by kernel_rfl) ?_
  apply Exists.intro
  refine ⟨fun wx hS => ?_, fun a' ha => ?_⟩
  · go_simp; rfl
  simp only [Act.put, zz1, zz2, zz3] at ha
  subst ha
  refine wpSeq_take (by kernel_rfl) (by kernel_rfl) ?_
  apply Exists.intro
  refine ⟨fun wx hS => ?_, fun a' ha => ?_⟩
  · go_simp; rfl
  simp only [Act.put, zz1, zz2, zz3] at ha
  subst ha
  refine wpSeq_take (by kernel_rfl) (by kernel_rfl) ?_
  apply Exists.intro
  refine ⟨fun wx hS => ?_, fun a' ha => ?_⟩
  · go_simp; rfl
  simp only [Act.put, zz1, zz2, zz3] at ha
  subst ha
  refine wpSeq_take (by kernel_rfl) (by kernel_rfl) ?_
  apply Exists.intro
  refine ⟨fun wx hS => ?_, fun a' ha => ?_⟩
  · go_simp; rfl
  simp only [Act.put, zz1, zz2, zz3] at ha
  subst ha
  refine wpSeq_take (by kernel_rfl) (by kernel_rfl) ?_
  apply Exists.intro
  refine ⟨fun wx hS => ?_, fun a' ha => ?_⟩
  · have c0 : wx.cell? ⟨q1, 2, none⟩ = some (.int .u64 (a.n : Int)) := blk_cell (hS.get A1.out.blk (by simp)) rfl; go_simp; rfl
  simp only [Act.put, zz1, zz2, zz3] at ha
  subst ha
  refine wpSeq_take (by kernel_rfl) (by kernel_rfl) ?_
  apply Exists.intro
  refine ⟨fun wx hS => ?_, fun a' ha => ?_⟩
  · go_simp; rfl
  simp only [Act.put, zz1, zz2, zz3] at ha
  subst ha
  refine wpSeq_take (by kernel_rfl) (by kernel_rfl) ?_
  apply Exists.intro
  refine ⟨fun wx hS => ?_, fun a' ha => ?_⟩
  · go_simp; rfl
  simp only [Act.put, zz1, zz2, zz3] at ha
  subst ha
  refine wpSeq_take (by kernel_rfl) (by kernel_rfl) ?_
  apply Exists.intro
  refine ⟨fun wx hS => ?_, fun a' ha => ?_⟩
  · go_simp; rfl
  simp only [Act.put, zz1, zz2, zz3] at ha
  subst ha
  refine wpSeq_take (by kernel_rfl) (by kernel_rfl) ?_
  apply Exists.intro
  refine ⟨fun wx hS => ?_, fun a' ha => ?_⟩
  · go_simp; rfl
  simp only [Act.put, zz1, zz2, zz3] at ha
  subst ha
  refine wpSeq_take (by kernel_rfl) (by kernel_rfl) ?_
  apply Exists.intro
  refine ⟨fun wx hS => ?_, fun a' ha => ?_⟩
  · have c0 : wx.cell? ⟨q2, 2, none⟩ = some (.int .u64 (a.n : Int)) := blk_cell (hS.get A2.out.blk (by simp)) rfl; go_simp; rfl
  simp only [Act.put, zz1, zz2, zz3] at ha
  subst ha
  refine wpSeq_take (by kernel_rfl) (by kernel_rfl) ?_
  apply Exists.intro
  refine ⟨fun wx hS => ?_, fun a' ha => ?_⟩
  · go_simp; rfl
  simp only [Act.put, zz1, zz2, zz3] at ha
  subst ha
  refine wpSeq_take (by kernel_rfl) (by kernel_rfl) ?_
  apply Exists.intro
  refine ⟨fun wx hS => ?_, fun a' ha => ?_⟩
  · go_simp; rfl
  simp only [Act.put, zz1, zz2, zz3] at ha
  subst ha
  refine wpSeq_take (by kernel_rfl) (by kernel_rfl) ?_
  apply Exists.intro
  refine ⟨fun wx hS => ?_, fun a' ha => ?_⟩
  · go_simp; rfl
  simp only [Act.put, zz1, zz2, zz3] at ha
  subst ha
  refine wpSeq_take (by kernel_rfl) (by kernel_rfl) ?_
  apply Exists.intro
  refine ⟨fun wx hS => ?_, fun a' ha => ?_⟩
  · go_simp; rfl
  simp only [Act.put, zz1, zz2, zz3] at ha
  subst ha
  refine wpSeq_take (by kernel_rfl) (by kernel_rfl) ?_
  apply Exists.intro
  refine ⟨fun wx hS => ?_, fun a' ha => ?_⟩
  · go_simp; rfl
  simp only [Act.put, zz1, zz2, zz3] at ha
  subst ha
  refine wpSeq_take (by kernel_rfl) (by kernel_rfl) ?_
  apply Exists.intro
  refine ⟨fun wx hS => ?_, fun a' ha => ?_⟩
  · go_simp; rfl
  simp only [Act.put, zz1, zz2, zz3] at ha
  subst ha
  refine wpSeq_take (by kernel_rfl) (by kernel_rfl) ?_
  apply Exists.intro
  refine ⟨fun wx hS => ?_, fun a' ha => ?_⟩
  · have c0 : wx.cell? ⟨q1, 0, none⟩ = some (.pointer (some ⟨sb1, 0, none⟩)) := blk_cell (hS.get A1.out.blk (by simp)) rfl; go_simp; rfl
  simp only [Act.put, zz1, zz2, zz3] at ha
  subst ha
  refine wpSeq_take (by kernel_rfl) (by kernel_rfl) ?_
  apply Exists.intro
  refine ⟨fun wx hS => ?_, fun a' ha => ?_⟩
  · go_simp; rfl
  simp only [Act.put, zz1, zz2, zz3] at ha
  subst ha
  refine wpSeq_take (by kernel_rfl) (by kernel_rfl) ?_
  apply Exists.intro
  refine ⟨fun wx hS => ?_, fun a' ha => ?_⟩
  · go_simp; rfl
  simp only [Act.put, zz1, zz2, zz3] at ha
  subst ha
  refine wpSeq_take (by kernel_rfl) (by kernel_rfl) ?_
  apply Exists.intro
  refine ⟨fun wx hS => ?_, fun a' ha => ?_⟩
  · go_simp; rfl
  simp only [Act.put, zz1, zz2, zz3] at ha
  subst ha
  refine wpSeq_take (by kernel_rfl) (by kernel_rfl) ?_
  apply Exists.intro
  refine ⟨fun wx hS => ?_, fun a' ha => ?_⟩
  · go_simp; rfl
  simp only [Act.put, zz1, zz2, zz3] at ha
  subst ha
  refine wpSeq_take (by kernel_rfl) (by kernel_rfl) ?_
  apply Exists.intro
  refine ⟨fun wx hS => ?_, fun a' ha => ?_⟩
  · have c0 : wx.cell? ⟨q2, 0, none⟩ = some (.pointer (some ⟨sb2, 0, none⟩)) := blk_cell (hS.get A2.out.blk (by simp)) rfl; go_simp; rfl
  simp only [Act.put, zz1, zz2, zz3] at ha
  subst ha
  refine wpSeq_one (by kernel_rfl) (by kernel_rfl) (fun K hK => ?_)
  go_simp
  refine (ksame_any (w2.drewN 1) (A1.out.st.upd_nil ((Upd.refl [] w2).drewN 1)) (A2.out.st.upd_nil ((Upd.refl [] w2).drewN 1)) OK1.out.kv OK1.out.kv (by have := OK1.out.len; omega)).mono ?_
  rintro e w3 ⟨rfl, hu3⟩
  rw [decide_eq_true rfl]
  have hg3 : Upd [] w2 w3 := ((Upd.refl _ _).drewN 1).trans hu3
  have G3 := hide hg3
  clear hu3
  refine hK _ _ (hg3) ?_
  clear hK K
  try simp only [Act.put, zz1, zz2, zz3]
  clear hg3
  refine wpSeq_take (by kernel_rfl) (by kernel_rfl) ?_
  apply Exists.intro
  refine ⟨fun wx hS => ?_, fun a' ha => ?_⟩
  · go_simp; rfl
  simp only [Act.put, zz1, zz2, zz3] at ha
  subst ha
  refine wpSeq_take (by kernel_rfl) (by kernel_rfl) ?_
  apply Exists.intro
  refine ⟨fun wx hS => ?_, fun a' ha => ?_⟩
  · go_simp; rfl
  simp only [Act.put, zz1, zz2, zz3] at ha
  subst ha
  refine wpSeq_take (by kernel_rfl) (by kernel_rfl) ?_
  apply Exists.intro
  refine ⟨fun wx hS => ?_, fun a' ha => ?_⟩
  · go_simp; rfl
  simp only [Act.put, zz1, zz2, zz3] at ha
  subst ha
  refine wpSeq_take (by kernel_rfl) (by kernel_rfl) ?_
  apply Exists.intro
  refine ⟨fun wx hS => ?_, fun a' ha => ?_⟩
  · go_simp; rfl
  simp only [Act.put, zz1, zz2, zz3] at ha
  subst ha
  refine wpSeq_take (by kernel_rfl) (by kernel_rfl) ?_
  apply Exists.intro
  refine ⟨fun wx hS => ?_, fun a' ha => ?_⟩
  · go_simp; rfl
  simp only [Act.put, zz1, zz2, zz3] at ha
  subst ha
  refine wpSeq_take (by kernel_rfl) (by kernel_rfl) ?_
  apply Exists.intro
  refine ⟨fun wx hS => ?_, fun a' ha => ?_⟩
  · go_simp; rfl
  simp only [Act.put, zz1, zz2, zz3] at ha
  subst ha
  refine wpSeq_take (by kernel_rfl) (by kernel_rfl) ?_
  apply Exists.intro
  refine ⟨fun wx hS => ?_, fun a' ha => ?_⟩
  · have c0 : wx.cell? ⟨q1, 1, none⟩ = some (.pointer (some ⟨tb1, 0, none⟩)) := blk_cell (hS.get A1.out.blk (by simp)) rfl; go_simp; rfl
  simp only [Act.put, zz1, zz2, zz3] at ha
  subst ha
  refine wpSeq_take (by kernel_rfl) (by kernel_rfl) ?_
  apply Exists.intro
  refine ⟨fun wx hS => ?_, fun a' ha => ?_⟩
  · go_simp; rfl
  simp only [Act.put, zz1, zz2, zz3] at ha
  subst ha
  refine wpSeq_take (by kernel_rfl) (by kernel_rfl) ?_
  apply Exists.intro
  refine ⟨fun wx hS => ?_, fun a' ha => ?_⟩
  · go_simp; rfl
  simp only [Act.put, zz1, zz2, zz3] at ha
  subst ha
  refine wpSeq_take (by kernel_rfl) (by kernel_rfl) ?_
  apply Exists.intro
  refine ⟨fun wx hS => ?_, fun a' ha => ?_⟩
  · go_simp; rfl
  simp only [Act.put, zz1, zz2, zz3] at ha
  subst ha
  refine wpSeq_take (by kernel_rfl) (by kernel_rfl) ?_
  apply Exists.intro
  refine ⟨fun wx hS => ?_, fun a' ha => ?_⟩
  · go_simp; rfl
  simp only [Act.put, zz1, zz2, zz3] at ha
  subst ha
  refine wpSeq_take (by kernel_rfl) (by kernel_rfl) ?_
  apply Exists.intro
  refine ⟨fun wx hS => ?_, fun a' ha => ?_⟩
  · have c0 : wx.cell? ⟨q2, 1, none⟩ = some (.pointer (some ⟨tb2, 0, none⟩)) := blk_cell (hS.get A2.out.blk (by simp)) rfl; go_simp; rfl
  simp only [Act.put, zz1, zz2, zz3] at ha
  subst ha
  refine wpSeq_one (by kernel_rfl) (by kernel_rfl) (fun K hK => ?_)
  go_simp
  refine (tsame_any w3 (A1.out.tab.upd_nil G3.out) (A2.out.tab.upd_nil G3.out) OK1.out.rise OK1.out.rise (fun p hp => (OK1.out.row p hp).1) (fun p hp => (OK1.out.row p hp).1) (by have := OK1.out.tab; omega) (by have := OK1.out.tab; omega)).mono ?_
  rintro e w4 ⟨rfl, hu4⟩
  rw [decide_eq_true rfl]
  have hg4 : Upd [] w2 w4 := G3.out.trans hu4
  have G4 := hide hg4
  clear hu4
  refine hK _ _ (hg4) ?_
  clear hK K
  try simp only [Act.put, zz1, zz2, zz3]
  clear hg4
  refine wpSeq_take (by kernel_rfl) (by kernel_rfl) ?_
  apply Exists.intro
  refine ⟨fun wx hS => ?_, fun a' ha => ?_⟩
  · go_simp; rfl
  simp only [Act.put, zz1, zz2, zz3] at ha
  subst ha
  refine wpSeq_take (by kernel_rfl) (by kernel_rfl) ?_
  apply Exists.intro
  refine ⟨fun wx hS => ?_, fun a' ha => ?_⟩
  · go_simp; rfl
  simp only [Act.put, zz1, zz2, zz3] at ha
  subst ha
  unfold wpSeq
  go_wp2_with fail
  go_ret
  exact ⟨rfl, U2.out.trans G4.out⟩
end Go.Proofs.YthpnnffogbjhpaaGreatDoor.Kv
