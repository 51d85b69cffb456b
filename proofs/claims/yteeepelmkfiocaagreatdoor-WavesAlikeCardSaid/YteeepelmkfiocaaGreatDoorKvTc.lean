/- slices.Clone, kv.Touches (where the document's Touches is not reached). -/
import Derived.Test.YteeepelmkfiocaaGreatDoorKvR
import Derived.Test.YteeepelmkfiocaaGreatDoorKvW
import Derived.Test.YteeepelmkfiocaaGreatDoorKvTq
import Derived.Test.YteeepelmkfiocaaGreatDoorKvLs
import Derived.Test.YteeepelmkfiocaaGreatDoorKvV
import Derived.Test.YteeepelmkfiocaaGreatDoorGenAll
import Derived.Lib.RowBridge
namespace Go.Proofs.YteeepelmkfiocaaGreatDoor.Kv
set_option linter.unusedSimpArgs false
set_option linter.unusedVariables false
set_option linter.unnecessarySimpa false
open Go.RowKit Go.Lib Go.Sort Go.Proofs.YteeepelmkfiocaaGreatDoor.Crc Go.Proofs.YteeepelmkfiocaaGreatDoor.Cm

theorem partsP {p : Option TypeInfo} {z : Value} {a b : Nat} (h : p.map (fun i => (i.zero, i.size, i.bytes)) = some (some z, a, b)) : ∃ i, p = some i ∧ i.zero = some z ∧ i.size = a ∧ i.bytes = b := by
  cases p with
  | none => cases h
  | some i =>
    simp only [Option.map_some, Option.some.injEq, Prod.mk.injEq] at h
    exact ⟨i, rfl, h.1, h.2.1, h.2.2⟩
theorem owns_block {w : World} {base b n : Nat} {cs : Array Value} {e : TypeId} {xs : List Value} {z : Nat} (h : w.heap[b]? = some (.cells cs e (0, 0))) (hb : base ≤ b) (hc : cs.toList = xs) (hn : xs.length = n * z) (hm : n ≤ maxLen) :
    w.ownsRow base e z (.slice (some ⟨b, 0, none⟩) n n) n xs := by
  refine ⟨hn, .inr ⟨b, n, cs, rfl, hb, h, Nat.le_refl _, hm, ?_, ?_⟩⟩
  · rw [← hn, ← hc]; simp
  · rw [hc, List.take_of_length_le (by omega)]
theorem eq_nil (t e : TypeId) (h : Tryz.prog.underlying t = some (.slice e)) (xo : Option Addr) (l c : Nat) (w : World) : (binOp .eql t (.slice xo l c) (.slice none 0 0)).run Tryz.prog w = .ok (.bool xo.isNone) w := by
  have := run_equal_slice_nil (P := Tryz.prog) w t e xo l c h
  unfold binOp
  simp only [Sem.run_bind, this, Result.andThen_ok, Sem.run_pure]
theorem strs_own {w : World} {base n : Nat} {e : TypeId} {v : Value} {l : List (List UInt8)} (h : w.ownsRow base e 1 v n (l.map strV)) (hn : n = l.length) : Strs w (fun k => v.ownBlock = some k) v l := by
  obtain ⟨ao, cap, rfl, h1, h2, h3⟩ := owns_slice h
  subst hn
  refine ⟨ao, cap, rfl, src_own h (by simp [strV, Value.oneCell']), h1, h2, fun a ha hm => ?_⟩
  rcases h.2 with ⟨e2, e3⟩ | ⟨g, c, cur, e2, -⟩
  · omega
  · cases e2; cases ha; rfl
theorem infoT : (Tryz.prog.info? TStr).map (fun i => (i.zero, i.size, i.bytes)) = some (some (.string ByteArray.empty), 1, 16) := by kernel_rfl
set_option maxRecDepth 100000 in
set_option maxHeartbeats 1000000 in
theorem clone_own {T : Nat → Prop} {v : Value} {l : List (List UInt8)} (w : World) (h : Strs w T v l) (hl : l.length * 16 ≤ 140737488355328) :
    Calls Tryz.prog 64 #[v] w fun e w' => (∃ v', e = .returned v' ∧ w'.ownsRow w.heap.size TStr 1 v' l.length (l.map strV)) ∧ Upd [] w w' := by
  obtain ⟨xo, c, rfl, hs, hc, hcm, hT⟩ := h
  have hq := eq_nil 42 _ Tryz.underlying42
  cases xo with
  | none =>
    obtain ⟨h0, rfl⟩ := hs.nil rfl
    have : l = [] := List.eq_nil_of_length_eq_zero h0
    subst this
    clear hs hT
    go_enter Tryz.func64, Tryz.ntmps64
    go_wp2_with fail
    go_ret
    exact ⟨⟨_, rfl, World.ownsRow_nil _ _ _ _⟩, Upd.refl _ _⟩
  | some a =>
    have HS := hide hs
    obtain ⟨i1, hi1, hz0, hz1, hz2⟩ := partsP infoT
    clear hs hT
    go_enter Tryz.func64, Tryz.ntmps64
    go_wp2_with (at_builtin; go_must (refine wpList_append_src _ rfl _ _ 42 rfl w.heap.size 9 i1 (.string ByteArray.empty) 1 16 Tryz.underlying42 hi1 hz0 hz1 hz2 rfl (by decide) (.slice (some ⟨w.heap.size, 0, none⟩) 0 0) 0 [] rfl (owns_block (blk_new _ _) (Nat.le_refl _) rfl rfl (by decide)) (some a) l.length c (l.map strV) rfl (srcS_upd HS.out ((Upd.refl [] w).alloc _) (by simp)) (by unfold maxLen; omega) (by omega) (by simp) ?_))
    intro ao1 cap1 w1 hown1 hU1 hn1
    have hu := ((Upd.refl [] w).alloc (.cells #[] 9)).trans_new hU1 (fun k hk => .inr (by simp [Value.ownBlock] at hk; omega))
    have HU := hide hu; have HS1 := hide hown1
    clear hu hown1 hU1 hn1
    go_wp2_with fail
    go_ret
    exact ⟨⟨_, rfl, by simpa using HS1.out⟩, HU.out⟩
theorem upd_putRow {α : Type} [Inhabited α] (enc : α → Value) (w : World) (blk off : Nat) (d : Array α) : Upd [blk] w (putRow enc w blk off d) :=
  ⟨rfl, rfl, rfl, by simp, fun k hk hS => by
    have hne : blk ≠ k := fun e => hS (by simp [e])
    simp only [putRow, mapBlock]
    rw [Array.getElem?_modify, if_neg hne]⟩
theorem upd_growA {w : World} (os : Array Obj) : Upd [] w (grow w os) := by
  have := upd_grow (w := w) 0 os
  exact this
theorem holds_grow {α : Type} [Inhabited α] {enc : α → Value} {w : World} {blk off : Nat} {d : Array α} (h : Holds enc w blk off d) (hb : blk < w.heap.size) (os : Array Obj) : Holds enc (grow w os) blk off d := fun j hj => by
  obtain ⟨h1, h2⟩ := h j hj
  have e : (grow w os).heap[blk]? = w.heap[blk]? := by simp [grow, Array.getElem?_append_left hb]
  refine ⟨?_, ?_⟩
  · rw [← h1]; simp only [World.cell?, e]
  · rw [← h2]; simp only [World.frozen?, e]
theorem strs_holds {w : World} {T : Nat → Prop} {blk n cap : Nat} {ss : List (List UInt8)} (h : Holds encStr w blk 0 ss.toArray) (hn : n = ss.length) (hc : n ≤ cap) (hm : cap ≤ maxLen) (hT : T blk) : Strs w T (.slice (some ⟨blk, 0, none⟩) n cap) ss := by
  subst hn
  refine ⟨_, _, rfl, ⟨by simp, by simp [strV, Value.oneCell'], by simp, fun a e j u hj => ?_⟩, hc, hm, fun a e _ => by cases e; exact hT⟩
  cases e
  rw [show (⟨blk, 0, none⟩ : Addr).add j = ⟨blk, j, none⟩ by unfold Addr.add; split <;> simp_all]
  rw [List.getElem?_map] at hj
  obtain ⟨s, hs, rfl⟩ := Option.map_eq_some_iff.1 hj
  obtain ⟨hlt, rfl⟩ := List.getElem?_eq_some_iff.1 hs
  have := (h j (by simpa using hlt)).1
  rw [Nat.zero_add] at this
  rw [this]
  simp [strV, strOf, hlt]
theorem holds_row {w : World} {base n g cap : Nat} {l : List (List UInt8)} (h : w.ownsRow base TStr 1 (.slice (some ⟨g, 0, none⟩) n cap) n (l.map strV)) : Holds encStr w g 0 l.toArray ∧ n ≤ cap ∧ cap ≤ maxLen ∧ base ≤ g ∧ g < w.heap.size := by
  rcases h.2 with ⟨e, -⟩ | ⟨g', cap', cur, e, h1, h2, h3, h4, h5, h6⟩
  · cases e
  · cases e
    have hlen : l.length = n := by have := h.1; simpa using this
    refine ⟨fun j hj => ?_, h3, h4, h1, blk_lt h2⟩
    have hj' : j < l.length := by simpa using hj
    rw [Nat.zero_add]
    refine ⟨blk_cell h2 ?_, blk_free h2⟩
    have h7 : (l.map strV)[j]? = some (strV l[j]) := by rw [List.getElem?_map, List.getElem?_eq_getElem hj']; rfl
    rw [← h6, List.getElem?_take] at h7
    split at h7
    · rw [Array.getElem?_toList] at h7
      rw [h7]
      simp [strV, strOf, hj']
    · cases h7
theorem sortM_nil : sortM [] = [] := by simp [sortM, Lib.compact, Lib.compactUpTo]
theorem sortM_len (ks : List (List UInt8)) : (sortM ks).length ≤ ks.length := by
  have := Lib.compact_length_le (ks.mergeSort fun x y => decide (x ≤ y))
  simpa [sortM, List.length_mergeSort] using this
theorem holds_pre {w : World} {g : Nat} {a b : List (List UInt8)} (h : Holds encStr w g 0 (a ++ b).toArray) : Holds encStr w g 0 a.toArray := fun j hj => by
  have hj' : j < a.length := by simpa using hj
  have := h j (by simp; omega)
  refine ⟨?_, this.2⟩
  rw [this.1]
  simp [hj', List.getElem?_append_left hj']
set_option maxRecDepth 100000 in
set_option maxHeartbeats 2000000 in
theorem touches_any {T : Nat → Prop} {v : Value} {c : Cm} (w : World) (hc : CmAt w T v c) (hk : c.keys.length ≤ 1000000) :
    Calls Tryz.prog 54 #[v] w fun e w' => (∃ v', e = .returned v' ∧ Strs w' (since w.heap.size w') v' (sortM c.keys)) ∧ Upd [] w w' := by
  obtain ⟨fit, ks, rfl, hks⟩ := hc
  obtain ⟨xo, cp, rfl, h1, h2, hget⟩ := hks.get
  simp only [maxLen] at h2
  have KS := hide hks
  clear hget hks fit
  unfold cmv
  simp only [strV]
  obtain ⟨sk, hsk⟩ : ∃ sk, sortM c.keys = sk := ⟨_, rfl⟩
  rw [hsk]
  have SK := hide hsk
  clear hsk
  go_enter Tryz.func54, Tryz.ntmps54
  go_upto_region 1 with fail
  have hB := blk_new w (.cells (cmc c (.slice xo c.keys.length cp)).toArray TCmd)
  have hu := (Upd.refl [] w).alloc (.cells (cmc c (.slice xo c.keys.length cp)).toArray TCmd)
  change Code.wp _ _ _ _ (w.alloc (.cells (cmc c (.slice xo c.keys.length cp)).toArray TCmd))
  generalize w.alloc (.cells (cmc c (.slice xo c.keys.length cp)).toArray TCmd) = w1 at *
  have b3 : w1.cell? ⟨w.heap.size, 3, none⟩ = some (.slice xo c.keys.length cp) := blk_cell hB rfl
  have U1 := hide hu; have KS1 := hide (KS.out.upd_nil hu)
  have hz1 := hu.size
  clear hB hu
  go_wp2_with fail
  refine (clone_own w1 KS1.out (by omega)).mono ?_
  rintro e w2 ⟨⟨v2, rfl, ho⟩, hu2⟩
  have U2 := hide (U1.out.trans hu2); have OW := hide ho
  have ST2 := hide ((strs_own ho rfl).mono (U := since w.heap.size w2) (fun g hg => by have := owns_lt ho g hg; exact ⟨by omega, this.2⟩))
  obtain ⟨ao, cap, rfl, hn1, hn2, hcl⟩ := owns_slice ho
  have hz2 := U2.out.size
  simp only [maxLen] at hn2
  by_cases h0 : c.keys.length = 0
  · have hke : c.keys = [] := List.eq_nil_of_length_eq_zero h0
    have hskn : sk = [] := by rw [← SK.out, hke, sortM_nil]
    have HSK := hide hskn
    have ST3 := hide (show Strs w2 (since w.heap.size w2) (.slice ao 0 cap) [] by have := ST2.out; rw [hke] at this; simpa using this)
    rw [h0]
    clear hu2 ho b3 hcl OW h0 hke hskn ST2
    go_wp2_with fail
    refine (sh_slices_Sort_string_none ao cap w2).mono ?_
    rintro e w3 ⟨rfl, rfl⟩
    go_wp2_with fail
    refine (sh_slices_Compact_string_empty ao cap w3).mono ?_
    rintro e w4 ⟨rfl, rfl⟩
    go_wp2_with fail
    go_ret
    exact ⟨⟨_, rfl, by rw [HSK.out]; exact ST3.out⟩, U2.out⟩
  · obtain ⟨g, rfl, -, -, -⟩ := hcl 0 (strV (c.keys[0]'(by omega))) (by rw [List.getElem?_map, List.getElem?_eq_getElem (by omega)]; rfl)
    obtain ⟨hH, -, -, hgb, hgl⟩ := holds_row ho
    have hsl : (c.keys.mergeSort fun x y => decide (x ≤ y)).length = c.keys.length := List.length_mergeSort _
    have HH := hide hH; have SLN := hide hsl
    clear hu2 ho b3 hcl OW h0 hH hsl ST2
    go_wp2_with fail
    refine (sh_slices_Sort_string g 0 cap c.keys w2 HH.out hgl (by omega)).mono ?_
    rintro e w3 ⟨rfl, n, os, rfl⟩
    have hh3 := holds_grow (holds_putRow encStr (Sort.ahead w2 n) g 0 c.keys.toArray (c.keys.mergeSort fun x y => decide (x ≤ y)).toArray (holds_ahead _ _ _ _ _ _ HH.out) (by simpa using SLN.out)) (by simpa using hgl) os
    have hu3 : Upd [g] w2 (grow (putRow encStr (Sort.ahead w2 n) g 0 (c.keys.mergeSort fun x y => decide (x ≤ y)).toArray) os) :=
      (((Upd.refl [g] w2).drewN n).trans (upd_putRow encStr (Sort.ahead w2 n) g 0 _)).trans ((upd_growA os).mono (by simp))
    generalize grow (putRow encStr (Sort.ahead w2 n) g 0 (c.keys.mergeSort fun x y => decide (x ≤ y)).toArray) os = w3 at *
    have HH3 := hide hh3; have U3 := hide hu3
    have hcp := sh_slices_Compact_string g 0 cap (c.keys.mergeSort fun x y => decide (x ≤ y)) w3 hh3 (by rw [SLN.out]; omega) (by rw [SLN.out]; omega)
    rw [SLN.out] at hcp
    have HCP := hide hcp
    clear hh3 hu3 hcp
    go_wp2_with fail
    refine HCP.out.mono ?_
    rintro e w4 ⟨rfl, q, rfl⟩
    have hlen := sortM_len c.keys
    have hh4 := holds_pre (holds_putRow encStr (Sort.ahead w3 q) g 0 (c.keys.mergeSort fun x y => decide (x ≤ y)).toArray (d := (Lib.compact (c.keys.mergeSort fun x y => decide (x ≤ y)) ++ List.replicate (c.keys.length - (Lib.compact (c.keys.mergeSort fun x y => decide (x ≤ y))).length) []).toArray) (holds_ahead _ _ _ _ _ _ HH3.out) (by
      have h5 : (Lib.compact (c.keys.mergeSort fun x y => decide (x ≤ y))).length ≤ c.keys.length := hlen
      have := SLN.out
      simp
      omega))
    have hu4 : Upd [g] w3 (putRow encStr (Sort.ahead w3 q) g 0 (Lib.compact (c.keys.mergeSort fun x y => decide (x ≤ y)) ++ List.replicate (c.keys.length - (Lib.compact (c.keys.mergeSort fun x y => decide (x ≤ y))).length) []).toArray) :=
      ((Upd.refl [g] w3).drewN q).trans (upd_putRow encStr (Sort.ahead w3 q) g 0 _)
    generalize putRow encStr (Sort.ahead w3 q) g 0 (Lib.compact (c.keys.mergeSort fun x y => decide (x ≤ y)) ++ List.replicate (c.keys.length - (Lib.compact (c.keys.mergeSort fun x y => decide (x ≤ y))).length) []).toArray = w4 at *
    have U4 := hide (U2.out.trans_new (U3.out.trans hu4) (fun k hk => .inr (by simp at hk; omega)))
    have hz4 := hu4.size
    have hz3 := U3.out.size
    have ST4 := hide (show Strs w4 (since w.heap.size w4) (.slice (some ⟨g, 0, none⟩) (sortM c.keys).length cap) (sortM c.keys) from strs_holds hh4 rfl (by omega) (by unfold maxLen; omega) ⟨by omega, by omega⟩)
    rw [show Lib.compact (c.keys.mergeSort fun x y => decide (x ≤ y)) = sk from SK.out]
    rw [SK.out] at ST4
    clear hh4 hu4 HCP HH3 HH hlen
    go_wp2_with fail
    go_ret
    exact ⟨⟨_, rfl, ST4.out⟩, U4.out⟩
end Go.Proofs.YteeepelmkfiocaaGreatDoor.Kv
