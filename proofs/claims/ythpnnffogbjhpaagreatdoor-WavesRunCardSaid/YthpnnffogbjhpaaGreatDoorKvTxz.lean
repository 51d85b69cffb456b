/- KvTx, KvKz in one text. -/
import Derived.Test.YthpnnffogbjhpaaGreatDoorKvMJ
import Derived.Test.YthpnnffogbjhpaaGreatDoorKvPure
import Derived.Test.YthpnnffogbjhpaaGreatDoorVarAll
import Derived.Test.YthpnnffogbjhpaaGreatDoorKyAll
import Derived.Test.YthpnnffogbjhpaaGreatDoorKvRq
import Derived.Test.YthpnnffogbjhpaaGreatDoorKvLs
import Derived.Test.YthpnnffogbjhpaaGreatDoorKvLV
set_option linter.unusedSimpArgs false
set_option linter.unusedVariables false
set_option linter.unnecessarySimpa false
namespace Go.Proofs.YthpnnffogbjhpaaGreatDoor.Kv
set_option linter.unusedSimpArgs false
set_option linter.unusedVariables false
open Go.RowKit Go.Lib Go.Proofs.YthpnnffogbjhpaaGreatDoor.Crc Go.Proofs.YthpnnffogbjhpaaGreatDoor.Cm Go.Proofs.YthpnnffogbjhpaaGreatDoor.Var

theorem Grew.trans {w w1 w2 : World} {base : Nat} {v v1 v2 : Value} {b1 b2 : List UInt8} (h : Grew w base v b1 v1 w1) (k : Grew w1 base v1 b2 v2 w2) (hz : w.heap.size ≤ w1.heap.size) : Grew w base v b2 v2 w2 :=
  ⟨k.own, h.upd.trans_new k.upd (fun g hm => by
    have hg : v1.ownBlock = some g := by simpa using hm
    rcases h.new g hg with h1 | h1
    · exact .inl (by simp [h1])
    · exact .inr h1), fun g hg => by
    rcases k.new g hg with h1 | h1
    · exact h.new g h1
    · exact .inr (by omega)⟩
theorem Grew.upd_nil {w w1 w2 : World} {base : Nat} {v v1 : Value} {b1 : List UInt8} (h : Grew w base v b1 v1 w1) (hu : Upd [] w1 w2) : Grew w base v b1 v1 w2 :=
  ⟨owns_upd h.own hu (by simp), h.upd.trans (hu.mono (by simp)), h.new⟩
set_option maxRecDepth 100000 in
set_option maxHeartbeats 1000000 in
theorem text_any {base : Nat} {v : Value} {bs s : List UInt8} (w : World) (hv : w.ownsRow base 5 1 v bs.length (bs.map u8v)) (hb : base ≤ w.heap.size) (hl : bs.length ≤ 1000000000) (hs : s.length ≤ 1000000000) :
    Calls Tryz.prog 66 #[v, .string (strOf s)] w fun e w' => ∃ v', e = .returned v' ∧ Grew w base v (bs ++ txB s) v' w' := by
  have hz := strOf_size s
  obtain ⟨i0, hi, hz0, hz1, hz2⟩ := info_parts infoB
  obtain ⟨ao, cap, rfl, -, -, -⟩ := owns_slice hv
  have HV := hide hv
  clear hv
  go_enter Tryz.func66, Tryz.ntmps66
  go_wp2_with fail
  refine (uint_any (base := base) (n := s.length) _ HV.out hb (by omega) (by omega)).mono ?_
  rintro e w1 ⟨v1, rfl, h1⟩
  have hul := uv_len10 (n := s.length) (by omega)
  have hz1' := h1.upd.size
  have G1 := hide h1
  clear h1
  go_wp2_with (at_builtin; go_must (refine wpList_append_mystr _ rfl _ _ 22 9 rfl base 5 i0 Tryz.underlying22 Tryz.underlying9 hi hz0 hz1 hz2 v1 _ _ rfl G1.out.own (strOf s) rfl (by rw [hz, List.length_append]; unfold maxLen; omega) (by rw [hz, List.length_append]; omega) (by omega) ?_))
  intro v2 w2 ho hu hn
  have hg2 : Grew w1 base v1 (bs ++ txB s) v2 w2 := ⟨by simpa [strCells_of, Nat.add_assoc, txB] using ho, hu, hn⟩
  have HG := hide (Grew.trans G1.out hg2 hz1')
  clear ho hu hn hg2 hz G1
  go_wp2_with fail
  go_ret
  exact ⟨_, rfl, HG.out⟩
end Go.Proofs.YthpnnffogbjhpaaGreatDoor.Kv
namespace Go.Proofs.YthpnnffogbjhpaaGreatDoor.Kv
set_option linter.unusedSimpArgs false
set_option linter.unusedVariables false
set_option linter.unnecessarySimpa false
open Go.RowKit Go.Lib Go.Sort Go.Proofs.YthpnnffogbjhpaaGreatDoor.Crc Go.Proofs.YthpnnffogbjhpaaGreatDoor.Cm

attribute [local go_sem] Oper.semAt_some
theorem nodup_len {m : KM} {ss : List (List UInt8)} (hn : ss.Nodup) (hk : ∀ k ∈ ss, ∃ v, mfind m k = some v) : ss.length ≤ m.length := by
  induction ss generalizing m with
  | nil => simp
  | cons k ss ih =>
    obtain ⟨v, hv⟩ := hk k (by simp)
    obtain ⟨h1, h2⟩ := List.nodup_cons.1 hn
    have h3 := ih h2 (m := mdel m k) fun j hj => by
      obtain ⟨u, hu⟩ := hk j (by simp [hj])
      exact ⟨u, by rw [mfind_del, if_neg (fun e : j = k => h1 (e ▸ hj))]; exact hu⟩
    have h4 := len_del_lt hv
    simp only [List.length_cons]
    omega
theorem walks_upd {w w' : World} {S : List Nat} (h : Upd S w w') (hS : ∀ k ∈ S, ∀ o, w.heap[k]? = some o → o.isWalk = false) : KeepsWalks w w' :=
  ⟨h.size, fun k o hk ho => by
    by_cases hm : k ∈ S
    · rw [hS k hm o hk] at ho; cases ho
    · exact h.get hk hm⟩
theorem own_nowalk {w : World} {base n z : Nat} {e : TypeId} {v : Value} {xs : List Value} (h : w.ownsRow base e z v n xs) : ∀ k ∈ v.ownBlock.toList, ∀ o, w.heap[k]? = some o → o.isWalk = false := by
  intro k hk o ho
  have hk' : v.ownBlock = some k := by simpa using hk
  rcases h.2 with ⟨rfl, -⟩ | ⟨g, cap, cur, rfl, -, hh, -⟩
  · cases hk'
  · cases hk'
    rw [hh] at ho
    cases ho
    rfl
set_option maxHeartbeats 4000000 in
theorem keys_any {b g : Nat} {m : KM} (w : World) (h : StIs w b g m) (hm : KvOk m) (hl : m.length ≤ 1000000) :
    Calls Tryz.prog 67 #[.pointer (some ⟨b, 0, none⟩)] w fun e w' => (∃ v, e = .returned v ∧ Strs w' (since w.heap.size w') v (m.map (·.1))) ∧ Upd [] w w' := by
  obtain ⟨i1, hi1, iz0, iz1, iz2⟩ := partsP infoT
  obtain ⟨ks, hkn⟩ : ∃ ks, m.map (·.1) = ks := ⟨_, rfl⟩
  rw [hkn]
  have KN := hide hkn
  clear hkn
  have ST := hide h; have HM := hide hm
  clear h hm
  refine calls_of_wp_marks Tryz.func67 rfl ?_
  simp only [Tryz.ntmps67, List.size_toArray, List.length_cons, List.length_nil, Nat.reduceAdd, Nat.reduceSub, Array.replicate_succ, Array.replicate_zero, List.push_toArray, List.append_toArray, List.nil_append, List.cons_append]
  have hb := blk_lt ST.out.blk
  have c0 : (w.alloc (.cells #[.slice none 0 0] 43)).cell? ⟨b, 0, none⟩ = some (.map (some g)) := blk_cell (((Upd.refl [] w).alloc _).get ST.out.blk (by simp)) rfl
  have cf : (w.alloc (.cells #[.slice none 0 0] 43)).frozen? ⟨b, 0, none⟩ = false := blk_free (((Upd.refl [] w).alloc _).get ST.out.blk (by simp))
  go_wp2_with fail
  refine (mkeys_any _).mono ?_
  rintro e w1 ⟨rfl, hp1, hz1, hu1⟩
  rw [World.size_alloc] at hp1 hz1 ⊢
  have hbx := hu1.get (blk_new w (.cells #[.slice none 0 0] 43)) (by simp)
  have HU1 := hide (((Upd.refl [] w).alloc (.cells #[.slice none 0 0] 43)).trans hu1); have HP1 := hide hp1; have HBX := hide hbx
  clear hu1 hp1 hbx c0 cf
  go_wp2_with fail
  have hgl := MapKind.is_lt ST.out.map
  refine wp_rangeP (gf := 123) rfl (enters_of Tryz.func123 (by kernel_rfl) rfl) (keys_iter (p := w.heap.size + 1) (g := g) (m := m) (fun q hq => by have := (HM.out.2 q hq).1; unfold maxLen; omega)) (fun _ => rfl) (by simp) (by simp)
    (fun W hu => ⟨by obtain ⟨cs, ty, x, hx⟩ := cell_blk HP1.out; have h2 := hu.get hx (by simp); simp only [World.cell?] at *; rw [h2, ← hx]; exact HP1.out, MapKind.is_upd_nil ST.out.map (HU1.out.trans hu)⟩)
    (fun pre W => Upd [] w W ∧ pre.Nodup ∧ (∀ k ∈ pre, ∃ v, mfind m k = some v) ∧ ∃ ao cap, W.heap[w.heap.size]? = some (.cells #[.slice ao pre.length cap] 43 (0, 0)) ∧
      W.ownsRow w.heap.size TStr 1 (.slice ao pre.length cap) pre.length (pre.map strV) ∧ (∀ q, (Value.slice ao pre.length cap).ownBlock = some q → w1.heap.size + 2 ≤ q)) (fun _ _ _ => False) ?hI ?hIw (fun _ _ _ _ h _ => h) ?h0 ?hround ?hdone (fun _ _ _ h _ => h.elim)
  case hI =>
    rintro pre W1 W2 ⟨h1, hn, hk, ao1, cap1, h2, h3, h4⟩ hu
    exact ⟨h1.trans_new hu (by simp; omega), hn, hk, ao1, cap1, hu.get h2 (by simp; omega), owns_upd h3 hu (fun k hk hm => by have := h4 k hk; simp at hm; omega), h4⟩
  case h0 =>
    intro W hu hsz
    exact ⟨HU1.out.trans hu, by simp, by simp, none, 0, hu.get HBX.out (by simp), World.ownsRow_nil W _ _ _, fun q hq => by cases hq⟩
  case hIw =>
    rintro pre r o W1 W2 ⟨h1, hn, hk, ao1, cap1, h2, h3, h4⟩ hge hr ho hu
    have hrn : r ≠ w.heap.size := by rintro rfl; rw [h2] at hr; cases hr; cases ho
    have hrq : ∀ q, (Value.slice ao1 pre.length cap1).ownBlock = some q → q ∉ [r] := fun q hq hm => by
      simp at hm
      subst hm
      have : o.isWalk = false := by
        rcases h3.2 with ⟨h5, -⟩ | ⟨q2, c2, cur, h5, -, h6, -⟩
        · rw [h5] at hq; cases hq
        · rw [h5] at hq
          cases hq
          rw [h6] at hr
          cases hr
          rfl
      rw [this] at ho
      cases ho
    have hsw := HU1.out.size
    exact ⟨h1.trans_new hu (by simp; omega), hn, hk, ao1, cap1, hu.get h2 (by simpa using fun e => hrn e.symm), owns_upd h3 hu hrq, h4⟩
  case hround =>
    rintro pre k W ⟨hnm, v, hkv⟩ hi hsz
    gi_wp2
    refine ⟨Keeps.refl _ _, KeepsWalks.refl _, fun W2 hu hi2 => ?_⟩
    obtain ⟨h1, hn, hk, ao1, cap1, h2, h3, h4⟩ := hi2 hi
    have hsz2 : w1.heap.size + 2 ≤ W2.heap.size := Nat.le_trans hsz hu.size
    have hpl := nodup_len hn hk
    have hnd2 : (pre ++ [k]).Nodup := by
      rw [List.nodup_append]
      exact ⟨hn, by simp, by simp; rintro a ha rfl; exact hnm ha⟩
    have hk2 : ∀ j ∈ pre ++ [k], ∃ v, mfind m j = some v := fun j hj => by
      rcases List.mem_append.1 hj with h | h
      · exact hk j h
      · rw [List.mem_singleton] at h
        exact ⟨v, h ▸ hkv⟩
    obtain ⟨cur, hcur⟩ : ∃ cur, pre.map strV = cur := ⟨_, rfl⟩
    rw [hcur] at h3
    have HCUR := hide hcur
    have hc := blk_cell (i := 0) h2 rfl
    have hf := blk_free (i := 0) h2
    simp only [List.getElem_toArray, List.getElem_cons_zero] at hc
    have HPL := hide hpl; have ND2 := hide hnd2; have HK2 := hide hk2
    have H1 := hide h1; have H2 := hide h2; have H3 := hide h3; have H4 := hide h4; have HPN := hide hn
    have hl1 : pre.length ≤ 1000000 := by omega
    clear hcur h1 h2 h3 h4 hi hi2 hu hnm hkv hn hk hnd2 hk2 hpl
    gi_wp2_with (gi_at_builtin; go_must (refine wpListIn_append_src _ rfl _ _ 43 rfl w.heap.size 9 i1 (.string ByteArray.empty) 1 16 Tryz.underlying43 hi1 iz0 iz1 iz2 rfl (by decide) (.slice ao1 pre.length cap1) pre.length cur rfl (H3.out.alloc _) (some ⟨W2.heap.size, 0, none⟩) 1 1 [strV k] rfl (src_one (cell_new1 rfl) rfl) (by unfold maxLen; omega) (by omega) (by simp; have := H1.out.size; omega) ?_))
    intro ao3 cap3 W3 hown3 hU3 hn3
    have hne : w.heap.size ∉ (Value.slice ao1 pre.length cap1).ownBlock.toList := fun hm => by
      have := H4.out w.heap.size (by simpa using hm)
      have := HU1.out.size
      omega
    have hN3 := hU3.get (b := w.heap.size) (blk_alloc H2.out _) hne
    have hc3 := blk_cell (i := 0) hN3 rfl
    have hf3 := blk_free (i := 0) hN3
    simp only [List.getElem_toArray, List.getElem_cons_zero] at hc3
    have U3 := hide hU3; have O3 := hide hown3; have B3 := hide hN3; have N3 := hide hn3; have NE := hide hne
    clear hN3 hown3 hU3 hn3 hne
    gi_wp2
    have hU : Upd (w.heap.size :: (Value.slice ao1 pre.length cap1).ownBlock.toList) W2 (W3.setCell ⟨w.heap.size, 0, none⟩ (.slice ao3 (pre.length + 1) cap3)) :=
      ((((Upd.refl _ W2).alloc _).trans (U3.out.mono (fun k hk => by simp at hk ⊢; exact .inr hk)))).setCell (.inl (by simp)) _
    have hsw := HU1.out.size
    have hlt2 := blk_lt H2.out
    have hn4 : ∀ q, (Value.slice ao3 (pre.length + 1) cap3).ownBlock = some q → w1.heap.size + 2 ≤ q := fun q hq => by
      rcases N3.out q hq with h | h
      · exact H4.out q h
      · omega
    refine ⟨Keeps.of_upd hU (fun q hq => ⟨fun hm => ?_, ?_⟩), ((KeepsWalks.alloc W2 _).trans (walks_upd U3.out (own_nowalk (H3.out.alloc _)))).trans (KeepsWalks.setCell _ _ _), H1.out.trans_new hU (fun q hq => ?_), ND2.out, HK2.out, ao3, cap3, ?_, ?_, fun q hq => hn4 q (by simpa using hq)⟩
    · simp only [List.mem_cons, Option.mem_toList, List.not_mem_nil, or_false] at hq hm
      rcases hm with h5 | h5
      · omega
      · have := H4.out q h5
        omega
    · simp only [List.mem_cons, List.not_mem_nil, or_false] at hq
      omega
    · simp only [List.mem_cons, Option.mem_toList] at hq ⊢
      rcases hq with h5 | h5
      · exact .inr (by omega)
      · exact .inr (by have := H4.out q h5; omega)
    · have := blk_set (i := 0) B3.out (.slice ao3 (pre.length + 1) cap3)
      simpa using this
    · have h7 := ownsRow_setCell_other O3.out (a := ⟨w.heap.size, 0, none⟩) (by
        intro h5
        have := hn4 w.heap.size h5
        omega) (.slice ao3 (pre.length + 1) cap3)
      have e1 : (pre ++ [k]).map strV = cur ++ [strV k] := by rw [← HCUR.out]; simp
      rw [e1]
      simpa using h7
  case hdone =>
    rintro xs W hsp ⟨h1, hn, hk, ao1, cap1, h2, h3, h4⟩ hd
    have hks := keys_sort HM.out.1 hsp.1 hsp.2
    rw [KN.out] at hks
    have hc := blk_cell (i := 0) h2 rfl
    have hpl := nodup_len hn hk
    simp only [List.getElem_toArray, List.getElem_cons_zero] at hc
    have H1 := hide h1; have H2 := hide h2; have H3 := hide h3; have H4 := hide h4; have HD := hide hd; have KS := hide hks; have HPL := hide hpl
    have hl1 : xs.length ≤ 1000000 := by omega
    have hsw := HU1.out.size
    by_cases h0 : xs.length = 0
    · have hxe : xs = [] := List.eq_nil_of_length_eq_zero h0
      subst hxe
      have hkn2 : ks = [] := by rw [← KS.out]; simp
      have HKN := hide hkn2
      have S0 := hide ((strs_own (l := []) h3 rfl).mono (U := fun k => w1.heap.size + 2 ≤ k ∧ k < W.heap.size) (fun k hk => ⟨h4 k hk, (owns_lt h3 k hk).2⟩))
      clear h1 hn hk h2 h3 h4 hd hks hpl h0 hsp hkn2
      go_wp2_with fail
      refine (sh_slices_Sort_string_none ao1 cap1 W).mono ?_
      rintro e w3 ⟨rfl, rfl⟩
      go_wp2_with fail
      refine leaves_one HD.out (results_tmp rfl _ _ _) ⟨⟨_, rfl, ?_⟩, H1.out.putObj (.inr (by omega)) _⟩
      rw [HKN.out]
      exact (S0.out.upd ((Upd.refl [w1.heap.size] w3).putObj (l := w1.heap.size) (.inl (by simp)) (.deferred none)) (fun k hk e => by simp at hk; omega)).mono (fun k hk => ⟨by omega, by simp; omega⟩)
    · obtain ⟨ao, cap, e, -, -, hcl⟩ := owns_slice h3
      cases e
      obtain ⟨q, rfl, -⟩ := hcl 0 (strV (xs[0]'(by omega))) (by rw [List.getElem?_map, List.getElem?_eq_getElem (by omega)]; rfl)
      obtain ⟨hH, hcm, hcM, hgb, hql⟩ := holds_row h3
      have hq := h4 q rfl
      have hsl : (xs.mergeSort fun x y => decide (x ≤ y)).length = xs.length := List.length_mergeSort _
      have hkl : ks.length = xs.length := by rw [← KS.out, hsl]
      have HH := hide hH; have SLN := hide hsl; have HKL := hide hkl
      clear h1 hn hk h2 h3 h4 hd hks hpl h0 hsp hcl hH hsl hkl
      go_wp2_with fail
      refine (sh_slices_Sort_string q 0 cap1 xs W HH.out hql (by omega)).mono ?_
      rintro e w3 ⟨rfl, n, os, rfl⟩
      have hh3 := holds_grow (holds_putRow encStr (Sort.ahead W n) q 0 xs.toArray (xs.mergeSort fun x y => decide (x ≤ y)).toArray (holds_ahead _ _ _ _ _ _ HH.out) (by simpa using SLN.out)) (by simpa using hql) os
      have hu3 : Upd [q] W (grow (putRow encStr (Sort.ahead W n) q 0 (xs.mergeSort fun x y => decide (x ≤ y)).toArray) os) :=
        (((Upd.refl [q] W).drewN n).trans (upd_putRow encStr (Sort.ahead W n) q 0 _)).trans ((upd_growA os).mono (by simp))
      generalize grow (putRow encStr (Sort.ahead W n) q 0 (xs.mergeSort fun x y => decide (x ≤ y)).toArray) os = w3 at *
      rw [KS.out] at hh3
      have hb3 := hu3.get H2.out (by simp; omega)
      have hc3 := blk_cell (i := 0) hb3 rfl
      simp only [List.getElem_toArray, List.getElem_cons_zero] at hc3
      have HH3 := hide hh3; have U3 := hide hu3; have D3 := hide (hu3.get HD.out (by simp; omega))
      have hz3 := hu3.size
      clear hh3 hu3 hb3 hc
      go_wp2_with fail
      refine leaves_one D3.out (results_tmp rfl _ _ _) ⟨⟨_, rfl, ?_⟩, (H1.out.trans_new U3.out (fun k hk => .inr (by simp at hk; omega))).putObj (.inr (by omega)) _⟩
      have h9 := strs_holds (T := fun k => k = q) HH3.out HKL.out.symm hcm hcM rfl
      exact (h9.upd ((Upd.refl [w1.heap.size] w3).putObj (l := w1.heap.size) (.inl (by simp)) (.deferred none)) (fun k hk e => by simp at hk; omega)).mono (fun k hk => by subst hk; exact ⟨by omega, by simp; omega⟩)
end Go.Proofs.YthpnnffogbjhpaaGreatDoor.Kv
