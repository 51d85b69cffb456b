/- keyset.Waves. -/
import Derived.Test.YteeepelmkfiocaaGreatDoorWvF
import Derived.Test.YteeepelmkfiocaaGreatDoorWvRows
import Derived.Test.YteeepelmkfiocaaGreatDoorKvG
namespace Go.Proofs.YteeepelmkfiocaaGreatDoor.Kv
set_option linter.unusedSimpArgs false
set_option linter.unusedVariables false
set_option linter.unnecessarySimpa false
open Go.RowKit Go.Lib Go.Proofs.YteeepelmkfiocaaGreatDoor.Crc Go.Proofs.YteeepelmkfiocaaGreatDoor.Cm

theorem wavesF_app : ∀ (l : List Cm) (f : Ft) (c : Cm), wavesF f (l ++ [c]) = wavesF f l ++ [ftW (l.foldl ftNext f) c]
  | [], f, c => rfl
  | d :: l, f, c => by simp only [List.cons_append, wavesF, List.foldl_cons]; rw [wavesF_app l]
/-- The front behind a batch's first commands. -/
def ftAt (l : List Cm) (i : Nat) : Ft := (l.take i).foldl ftNext ft0
theorem ftAt_next {l : List Cm} {i : Nat} {c : Cm} (h : l[i]? = some c) : ftAt l (i + 1) = ftNext (ftAt l i) c := by
  unfold ftAt
  rw [List.take_add_one, h, List.foldl_append]
  rfl
theorem waves_next {l : List Cm} {i : Nat} {c : Cm} (h : l[i]? = some c) : wavesM (l.take (i + 1)) = wavesM (l.take i) ++ [ftW (ftAt l i) c] := by
  rw [List.take_add_one, h]
  exact wavesF_app _ _ _
theorem wvPut_len : ∀ {l : List (List UInt8)} {m : List (List UInt8 × Nat)} {v : Nat}, (wvPut m l v).length ≤ m.length + l.length
  | [], m, v => by simp [wvPut]
  | k :: l, m, v => by
    have h1 := wvPut_len (l := l) (m := mput strK m k v) (v := v)
    have h2 := len_put_le (K := strK) (l := m) (k := k) (v := v)
    have e : wvPut m (k :: l) v = wvPut (mput strK m k v) l v := rfl
    rw [e, List.length_cons]
    omega
theorem sortM_le (ks : List (List UInt8)) : (sortM ks).length ≤ ks.length := by
  have := Lib.compact_length_le (ks.mergeSort fun x y => decide (x ≤ y))
  simpa [sortM, List.length_mergeSort] using this
/-- What a front has behind i small commands. -/
structure FtB (f : Ft) (i : Nat) : Prop where
  ok : FtOk f
  ks : f.ks.length ≤ 100 * i
  cs : f.cs.length ≤ i
  top : f.top ≤ i
theorem FtB.zero : FtB ft0 0 := ⟨ft0_ok, Nat.le_refl _, Nat.le_refl _, Nat.le_refl _⟩
theorem FtB.next {f : Ft} {i : Nat} {c : Cm} (h : FtB f i) (hc : SmallC c) : FtB (ftNext f c) (i + 1) := by
  have h1 := wvPut_len (l := sortM c.keys) (m := f.ks) (v := ftW f c + 1)
  have h2 := sortM_le c.keys
  have h3 := len_put_le (K := cliK) (l := f.cs) (k := c.client) (v := ftW f c + 1)
  have h4 := hc.2.2.1
  have h5 := h.ok.w (c := c)
  have h6 := h.ks
  have h7 := h.cs
  have h8 := h.top
  refine ⟨h.ok.next, ?_, ?_, ?_⟩
  · show (wvPut f.ks (sortM c.keys) (ftW f c + 1)).length ≤ _
    omega
  · show (mput cliK f.cs c.client (ftW f c + 1)).length ≤ _
    omega
  · show max f.top (ftW f c + 1) ≤ _
    omega
theorem FtB.at {l : List Cm} (hs : ∀ c ∈ l, SmallC c) : ∀ i, i ≤ l.length → FtB (ftAt l i) i
  | 0, _ => by simpa [ftAt] using FtB.zero
  | i + 1, h => by
    have hc : l[i]? = some l[i] := List.getElem?_eq_getElem (by omega)
    rw [ftAt_next hc]
    exact (FtB.at hs i (by omega)).next (hs _ (List.getElem_mem _))
theorem own_lower {w : World} {base base' n z : Nat} {e : TypeId} {v : Value} {xs : List Value} (h : w.ownsRow base e z v n xs) (hb : base' ≤ base) : w.ownsRow base' e z v n xs := by
  refine ⟨h.1, ?_⟩
  rcases h.2 with h1 | ⟨g, cap, cur, h1, h2, h3⟩
  · exact .inl h1
  · exact .inr ⟨g, cap, cur, h1, by omega, h3⟩
set_option maxRecDepth 100000 in
set_option maxHeartbeats 2000000 in
theorem waves_any {T : Nat → Prop} {v : Value} {l : List Cm} (w : World) (h : cmK.row w T v l) (hs : Small l) :
    Calls Tryz.prog 35 #[v] w fun e w' => (∃ ao cap, e = .returned (.slice ao l.length cap) ∧ w'.ownsRow w.heap.size TInt 1 (.slice ao l.length cap) l.length ((wavesM l).map nV)) ∧ Upd [] w w' := by
  obtain ⟨i1, hi1, iz0, iz1, iz2⟩ := partsI infoI
  have hmm := @run_makeMap Tryz.prog
  obtain ⟨xo, cp, rfl, h1, h2, hg⟩ := cm_get h
  have HG := hide hg; have HS := hide hs
  have hl100 := hs.1
  simp only [maxLen] at h2
  clear h hg hs
  go_enter Tryz.func35, Tryz.ntmps35
  go_wp2_with fail
  obtain ⟨H, hH⟩ : ∃ H, w.heap.size = H := ⟨_, rfl⟩
  obtain ⟨w3, hw3⟩ : ∃ w3, ((w.alloc (.map #[] 0)).alloc (.map #[] 0)).alloc (.cells #[.map (some w.heap.size), .map (some (w.heap.size + 1)), .int .i64 0, .int .i64 0] 103) = w3 := ⟨_, rfl⟩
  have hft : FtIs w3 (H + 2) H (H + 1) ft0 := by
    rw [← hw3, ← hH]
    have h4 := blk_new ((w.alloc (.map #[] 0)).alloc (.map #[] 0)) (.cells #[.map (some w.heap.size), .map (some (w.heap.size + 1)), .int .i64 0, .int .i64 0] 103)
    simp only [World.size_alloc] at h4
    have h5 := MapKind.is_new wcK (w.alloc (.map #[] 0))
    simp only [World.size_alloc] at h5
    exact ⟨h4, MapKind.is_upd_nil (MapKind.is_new wsK w) (((Upd.refl [] _).alloc _).alloc _), MapKind.is_upd_nil h5 ((Upd.refl [] _).alloc _), by omega⟩
  have hu3 : Upd [] w w3 := by rw [← hw3]; exact (((Upd.refl [] w).alloc _).alloc _).alloc _
  have hsz3 : w3.heap.size = H + 3 := by rw [← hw3, ← hH]; simp
  rw [hw3, hH]
  have FT0 := hide hft; have U3 := hide hu3; have HH := hide hH
  clear hft hu3 hw3 hH
  go_loopw [4, 13] (fun so si wr => ∃ (i : Nat) (ao : Option Addr) (cap : Nat), i ≤ l.length ∧ so = .slice ao i cap ∧ si = .int .i64 i ∧ wr.ownsRow (H + 3) TInt 1 (.slice ao i cap) i ((wavesM (l.take i)).map nV) ∧ FtIs wr (H + 2) H (H + 1) (ftAt l i) ∧ Upd [] w wr ∧ H + 3 ≤ wr.heap.size) (fun _ si _ => l.length - (RowKit.intOf si).toNat)
  case atStart => exact ⟨0, none, 0, by omega, rfl, rfl, World.ownsRow_nil _ _ _ _, FT0.out, U3.out, by omega⟩
  case round =>
    obtain ⟨i, ao, cap, hi, rfl, rfl, hown, hft, hu, hsz⟩ := hrel
    have OW := hide hown; have FT := hide hft; have HU := hide hu
    clear hown hft hu hsz3 FT0 U3
    by_cases hlt : i < l.length
    · have d5 : decide ((i : Int) < l.length) = true := by simp; omega
      have d5' : decide (i < l.length) = true := by simpa using hlt
      obtain ⟨c, hc⟩ : ∃ c, l[i]? = some c := ⟨_, List.getElem?_eq_getElem hlt⟩
      obtain ⟨bc, oc, ka, kc, rfl, hbc, -, fit, hks, hcc⟩ := HG.out i c hc
      have hsc := HS.out.2 c (List.mem_of_getElem? hc)
      have hfb := FtB.at HS.out.2 i hi
      have HC := hide hc; have FIT := hide fit; have KS := hide hks; have SC := hide hsc; have FB := hide hfb
      obtain ⟨c0, c1, c2, c3, c4, c5, c6⟩ := hcc.upd HU.out hbc (by simp)
      have hB := blk_new wr (.cells (cmc c (.slice ka c.keys.length kc)).toArray TCmd)
      have hU := (Upd.refl [] wr).alloc (.cells (cmc c (.slice ka c.keys.length kc)).toArray TCmd)
      clear hc fit hks hcc hsc hfb
      go_upto_region 6 with fail
      change Code.wp _ _ _ _ (wr.alloc (.cells (cmc c (.slice ka c.keys.length kc)).toArray TCmd))
      generalize wr.alloc (.cells (cmc c (.slice ka c.keys.length kc)).toArray TCmd) = W at *
      obtain ⟨B, hBs⟩ : ∃ B, wr.heap.size = B := ⟨_, rfl⟩
      rw [hBs] at hB hsz ⊢
      have CB := hide hB; have UW := hide (HU.out.trans hU); have OW2 := hide (owns_upd OW.out hU (by simp)); have FT2 := hide (FT.out.upd_nil hU)
      have hzW := hU.size
      rw [hBs] at hzW
      clear hB hU c0 c1 c2 c3 c4 c5 c6 OW FT HU hBs
      obtain ⟨b0, b1, b2, b3, b4, b5, b6⟩ := cell7 CB.out
      go_wp2_with fail
      have hk100 := SC.out.2.2.1
      have hfp := fput_any (T := T) (c := c) (v := cmv c (.slice ka c.keys.length kc)) W FT2.out FB.out.ok ⟨FIT.out, _, rfl, KS.out.upd_nil UW.out⟩ (by omega) (fun k hk => by have := SC.out.2.2.2 k hk; unfold maxLen; omega) (by have := sortM_le c.keys; omega) (by have := FB.out.ks; omega) (by have := FB.out.cs; omega) (by have := FB.out.top; omega)
      simp only [cmv, strV] at hfp
      refine hfp.mono ?_
      rintro e w5 ⟨rfl, hft5, hu5⟩
      obtain ⟨x, hx⟩ : ∃ x, ftW (ftAt l i) c = x := ⟨_, rfl⟩
      have hxt := FB.out.ok.w (c := c)
      have hxt2 := FB.out.top
      rw [hx] at hxt ⊢
      have OW5 := hide (owns_upd OW2.out hu5 (fun q hq hm => by have := (owns_lt OW2.out q hq).1; simp at hm; omega))
      have hwn := waves_next HC.out
      rw [hx] at hwn
      have hfn := ftAt_next HC.out
      have FT5 := hide (show FtIs w5 (H + 2) H (H + 1) (ftAt l (i + 1)) by rw [hfn]; exact hft5)
      have U5 := hide (UW.out.trans_new hu5 (fun q hq => .inr (by have := HH.out; simp at hq; omega)))
      have WN := hide hwn
      have hz5 := hu5.size
      obtain ⟨cur, hcur⟩ : ∃ cur, (wavesM (l.take i)).map nV = cur := ⟨_, rfl⟩
      rw [hcur] at OW5
      have HCU := hide hcur
      clear hfp hft5 hu5 hx hwn hfn hcur OW2 FT2 UW b0 b1 b2 b3 b4 b5 b6 CB SC FB KS
      go_wp2_with (at_builtin; go_must (refine wpList_append_src _ rfl _ _ 23 rfl (H + 3) 3 i1 (.int .i64 0) 1 8 Tryz.underlying23 hi1 iz0 iz1 iz2 rfl (by decide) (.slice ao i cap) i cur rfl (by exact owns_upd OW5.out ((Upd.refl [] w5).alloc _) (by simp)) (some ⟨w5.heap.size, 0, none⟩) 1 1 [nV x] rfl (src_one (cell_new1 rfl) rfl) (by unfold maxLen; omega) (by omega) (by simp; omega) ?_))
      intro ao7 cap7 w7 hown7 hU7 hn7
      have hU7' := grown_upd hU7
      have hnot : ∀ q, q ∈ (Value.slice ao i cap).ownBlock.toList → H + 3 ≤ q := fun q hm => (owns_lt OW5.out q (by simpa using hm)).1
      have FT7 := hide (FT5.out.upd hU7' (fun hm => by have := hnot _ hm; omega) (fun hm => by have := hnot _ hm; omega) (fun hm => by have := hnot _ hm; omega))
      have U7 := hide (U5.out.trans_new hU7' (fun q hq => .inr (by have := HH.out; have := hnot q hq; omega)))
      have OW7 := hide hown7
      have hz7 := hU7'.size
      clear hown7 hU7 hU7' hn7 hnot FT5 U5 OW5
      go_wp2_with fail
      go_roundw
      case rel => exact ⟨i + 1, ao7, cap7, by omega, rfl, by go_num, by rw [WN.out, List.map_append, HCU.out]; exact OW7.out, FT7.out, U7.out, by omega⟩
      case measure => simp [RowKit.intOf]; omega
    · have d5 : decide ((i : Int) < l.length) = false := by simp; omega
      have d5' : decide (i < l.length) = false := by simpa using hlt
      have hie : i = l.length := by omega
      subst hie
      go_wp2_with fail
      go_ret
      have h8 := OW.out
      rw [List.take_length] at h8
      refine ⟨⟨ao, cap, rfl, ?_⟩, HU.out⟩
      rw [HH.out]
      exact own_lower h8 (by omega)
end Go.Proofs.YteeepelmkfiocaaGreatDoor.Kv
