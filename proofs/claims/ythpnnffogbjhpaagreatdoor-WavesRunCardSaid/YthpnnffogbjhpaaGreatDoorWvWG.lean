/- WvW, WvG, WvNa in one text. -/
import Derived.Test.YthpnnffogbjhpaaGreatDoorWvFL
import Derived.Test.YthpnnffogbjhpaaGreatDoorWvRows
import Derived.Test.YthpnnffogbjhpaaGreatDoorKvGH
import Derived.Test.YthpnnffogbjhpaaGreatDoorKvPure
import Derived.Test.YthpnnffogbjhpaaGreatDoorGenAll
set_option linter.unusedSimpArgs false
set_option linter.unusedVariables false
set_option linter.unnecessarySimpa false
namespace Go.Proofs.YthpnnffogbjhpaaGreatDoor.Kv
set_option linter.unusedSimpArgs false
set_option linter.unusedVariables false
set_option linter.unnecessarySimpa false
open Go.RowKit Go.Lib Go.Proofs.YthpnnffogbjhpaaGreatDoor.Crc Go.Proofs.YthpnnffogbjhpaaGreatDoor.Cm

theorem wavesF_app : ∀ (l : List Cm) (f : Ft) (c : Cm), wavesF f (l ++ [c]) = wavesF f l ++ [ftW (l.foldl ftNext f) c]
  | [], f, c => rfl
  | d :: l, f, c => by simp only [List.cons_append, wavesF, List.foldl_cons]; rw [wavesF_app l]
/-- The front behind a batch's first commands. -/
def ftAt (l : List Cm) (i : Nat) : Ft := (l.take i).foldl ftNext ft0
theorem ftAt_next {l : List Cm} {i : Nat} {c : Cm} (h : l[i]? = some c) : ftAt l (i + 1) = ftNext (ftAt l i) c := by
  unfold ftAt
  rw [List.take_add_one, h, List.foldl_append]
  rfl
theorem waves_next {l : List Cm} {i : Nat} {c : Cm} (h : l[i]? = some c) : wavesM (l.take (i + 1)) = wavesM (l.take i) ++ [ftW (ftAt l i) c] := by
  rw [List.take_add_one, h]
  exact wavesF_app _ _ _
theorem wvPut_len : ∀ {l : List (List UInt8)} {m : List (List UInt8 × Nat)} {v : Nat}, (wvPut m l v).length ≤ m.length + l.length
  | [], m, v => by simp [wvPut]
  | k :: l, m, v => by
    have h1 := wvPut_len (l := l) (m := mput strK m k v) (v := v)
    have h2 := len_put_le (K := strK) (l := m) (k := k) (v := v)
    have e : wvPut m (k :: l) v = wvPut (mput strK m k v) l v := rfl
    rw [e, List.length_cons]
    omega
theorem sortM_le (ks : List (List UInt8)) : (sortM ks).length ≤ ks.length := by
  have := Lib.compact_length_le (ks.mergeSort fun x y => decide (x ≤ y))
  simpa [sortM, List.length_mergeSort] using this
/-- What a front has behind i small commands. -/
structure FtB (f : Ft) (i : Nat) : Prop where
  ok : FtOk f
  ks : f.ks.length ≤ 100 * i
  cs : f.cs.length ≤ i
  top : f.top ≤ i
theorem FtB.zero : FtB ft0 0 := ⟨ft0_ok, Nat.le_refl _, Nat.le_refl _, Nat.le_refl _⟩
theorem FtB.next {f : Ft} {i : Nat} {c : Cm} (h : FtB f i) (hc : SmallC c) : FtB (ftNext f c) (i + 1) := by
  have h1 := wvPut_len (l := sortM c.keys) (m := f.ks) (v := ftW f c + 1)
  have h2 := sortM_le c.keys
  have h3 := len_put_le (K := cliK) (l := f.cs) (k := c.client) (v := ftW f c + 1)
  have h4 := hc.2.2.1
  have h5 := h.ok.w (c := c)
  have h6 := h.ks
  have h7 := h.cs
  have h8 := h.top
  refine ⟨h.ok.next, ?_, ?_, ?_⟩
  · show (wvPut f.ks (sortM c.keys) (ftW f c + 1)).length ≤ _
    omega
  · show (mput cliK f.cs c.client (ftW f c + 1)).length ≤ _
    omega
  · show max f.top (ftW f c + 1) ≤ _
    omega
theorem FtB.at {l : List Cm} (hs : ∀ c ∈ l, SmallC c) : ∀ i, i ≤ l.length → FtB (ftAt l i) i
  | 0, _ => by simpa [ftAt] using FtB.zero
  | i + 1, h => by
    have hc : l[i]? = some l[i] := List.getElem?_eq_getElem (by omega)
    rw [ftAt_next hc]
    exact (FtB.at hs i (by omega)).next (hs _ (List.getElem_mem _))
theorem own_lower {w : World} {base base' n z : Nat} {e : TypeId} {v : Value} {xs : List Value} (h : w.ownsRow base e z v n xs) (hb : base' ≤ base) : w.ownsRow base' e z v n xs := by
  refine ⟨h.1, ?_⟩
  rcases h.2 with h1 | ⟨g, cap, cur, h1, h2, h3⟩
  · exact .inl h1
  · exact .inr ⟨g, cap, cur, h1, by omega, h3⟩
set_option maxRecDepth 100000 in
set_option maxHeartbeats 2000000 in
theorem waves_any {T : Nat → Prop} {v : Value} {l : List Cm} (w : World) (h : cmK.row w T v l) (hs : Small l) :
    Calls Tryz.prog 110 #[v] w fun e w' => (∃ ao cap, e = .returned (.slice ao l.length cap) ∧ w'.ownsRow w.heap.size TInt 1 (.slice ao l.length cap) l.length ((wavesM l).map nV)) ∧ Upd [] w w' := by
  obtain ⟨i1, hi1, iz0, iz1, iz2⟩ := partsI infoI
  have hmm := @run_makeMap Tryz.prog
  obtain ⟨xo, cp, rfl, h1, h2, hg⟩ := cm_get h
  have HG := hide hg; have HS := hide hs
  have hl100 := hs.1
  simp only [maxLen] at h2
  clear h hg hs
  go_enter Tryz.func110, Tryz.ntmps110
  go_wp2_with fail
  obtain ⟨H, hH⟩ : ∃ H, w.heap.size = H := ⟨_, rfl⟩
  obtain ⟨w3, hw3⟩ : ∃ w3, ((w.alloc (.map #[] 0)).alloc (.map #[] 0)).alloc (.cells #[.map (some w.heap.size), .map (some (w.heap.size + 1)), .int .i64 0, .int .i64 0] 208) = w3 := ⟨_, rfl⟩
  have hft : FtIs w3 (H + 2) H (H + 1) ft0 := by
    rw [← hw3, ← hH]
    have h4 := blk_new ((w.alloc (.map #[] 0)).alloc (.map #[] 0)) (.cells #[.map (some w.heap.size), .map (some (w.heap.size + 1)), .int .i64 0, .int .i64 0] 208)
    simp only [World.size_alloc] at h4
    have h5 := MapKind.is_new wcK (w.alloc (.map #[] 0))
    simp only [World.size_alloc] at h5
    exact ⟨h4, MapKind.is_upd_nil (MapKind.is_new wsK w) (((Upd.refl [] _).alloc _).alloc _), MapKind.is_upd_nil h5 ((Upd.refl [] _).alloc _), by omega⟩
  have hu3 : Upd [] w w3 := by rw [← hw3]; exact (((Upd.refl [] w).alloc _).alloc _).alloc _
  have hsz3 : w3.heap.size = H + 3 := by rw [← hw3, ← hH]; simp
  rw [hw3, hH]
  have FT0 := hide hft; have U3 := hide hu3; have HH := hide hH
  clear hft hu3 hw3 hH
  go_loopw [4, 13] (fun so si wr => ∃ (i : Nat) (ao : Option Addr) (cap : Nat), i ≤ l.length ∧ so = .slice ao i cap ∧ si = .int .i64 i ∧ wr.ownsRow (H + 3) TInt 1 (.slice ao i cap) i ((wavesM (l.take i)).map nV) ∧ FtIs wr (H + 2) H (H + 1) (ftAt l i) ∧ Upd [] w wr ∧ H + 3 ≤ wr.heap.size) (fun _ si _ => l.length - (RowKit.intOf si).toNat)
  case atStart => exact ⟨0, none, 0, by omega, rfl, rfl, World.ownsRow_nil _ _ _ _, FT0.out, U3.out, by omega⟩
  case round =>
    obtain ⟨i, ao, cap, hi, rfl, rfl, hown, hft, hu, hsz⟩ := hrel
    have OW := hide hown; have FT := hide hft; have HU := hide hu
    clear hown hft hu hsz3 FT0 U3
    by_cases hlt : i < l.length
    · have d5 : decide ((i : Int) < l.length) = true := by simp; omega
      have d5' : decide (i < l.length) = true := by simpa using hlt
      obtain ⟨c, hc⟩ : ∃ c, l[i]? = some c := ⟨_, List.getElem?_eq_getElem hlt⟩
      obtain ⟨bc, oc, ka, kc, rfl, hbc, -, fit, hks, hcc⟩ := HG.out i c hc
      have hsc := HS.out.2 c (List.mem_of_getElem? hc)
      have hfb := FtB.at HS.out.2 i hi
      have HC := hide hc; have FIT := hide fit; have KS := hide hks; have SC := hide hsc; have FB := hide hfb
      obtain ⟨c0, c1, c2, c3, c4, c5, c6⟩ := hcc.upd HU.out hbc (by simp)
      have hB := blk_new wr (.cells (cmc c (.slice ka c.keys.length kc)).toArray TCmd)
      have hU := (Upd.refl [] wr).alloc (.cells (cmc c (.slice ka c.keys.length kc)).toArray TCmd)
      clear hc fit hks hcc hsc hfb
      go_upto_region 6 with fail
      change Code.wp _ _ _ _ (wr.alloc (.cells (cmc c (.slice ka c.keys.length kc)).toArray TCmd))
      generalize wr.alloc (.cells (cmc c (.slice ka c.keys.length kc)).toArray TCmd) = W at *
      obtain ⟨B, hBs⟩ : ∃ B, wr.heap.size = B := ⟨_, rfl⟩
      rw [hBs] at hB hsz ⊢
      have CB := hide hB; have UW := hide (HU.out.trans hU); have OW2 := hide (owns_upd OW.out hU (by simp)); have FT2 := hide (FT.out.upd_nil hU)
      have hzW := hU.size
      rw [hBs] at hzW
      clear hB hU c0 c1 c2 c3 c4 c5 c6 OW FT HU hBs
      obtain ⟨b0, b1, b2, b3, b4, b5, b6⟩ := cell7 CB.out
      go_wp2_with fail
      have hk100 := SC.out.2.2.1
      have hfp := fput_any (T := T) (c := c) (v := cmv c (.slice ka c.keys.length kc)) W FT2.out FB.out.ok ⟨FIT.out, _, rfl, KS.out.upd_nil UW.out⟩ (by omega) (fun k hk => by have := SC.out.2.2.2 k hk; unfold maxLen; omega) (by have := sortM_le c.keys; omega) (by have := FB.out.ks; omega) (by have := FB.out.cs; omega) (by have := FB.out.top; omega)
      simp only [cmv, strV] at hfp
      refine hfp.mono ?_
      rintro e w5 ⟨rfl, hft5, hu5⟩
      obtain ⟨x, hx⟩ : ∃ x, ftW (ftAt l i) c = x := ⟨_, rfl⟩
      have hxt := FB.out.ok.w (c := c)
      have hxt2 := FB.out.top
      rw [hx] at hxt ⊢
      have OW5 := hide (owns_upd OW2.out hu5 (fun q hq hm => by have := (owns_lt OW2.out q hq).1; simp at hm; omega))
      have hwn := waves_next HC.out
      rw [hx] at hwn
      have hfn := ftAt_next HC.out
      have FT5 := hide (show FtIs w5 (H + 2) H (H + 1) (ftAt l (i + 1)) by rw [hfn]; exact hft5)
      have U5 := hide (UW.out.trans_new hu5 (fun q hq => .inr (by have := HH.out; simp at hq; omega)))
      have WN := hide hwn
      have hz5 := hu5.size
      obtain ⟨cur, hcur⟩ : ∃ cur, (wavesM (l.take i)).map nV = cur := ⟨_, rfl⟩
      rw [hcur] at OW5
      have HCU := hide hcur
      clear hfp hft5 hu5 hx hwn hfn hcur OW2 FT2 UW b0 b1 b2 b3 b4 b5 b6 CB SC FB KS
      go_wp2_with (at_builtin; go_must (refine wpList_append_src _ rfl _ _ 59 rfl (H + 3) 3 i1 (.int .i64 0) 1 8 Tryz.underlying59 hi1 iz0 iz1 iz2 rfl (by decide) (.slice ao i cap) i cur rfl (by exact owns_upd OW5.out ((Upd.refl [] w5).alloc _) (by simp)) (some ⟨w5.heap.size, 0, none⟩) 1 1 [nV x] rfl (src_one (cell_new1 rfl) rfl) (by unfold maxLen; omega) (by omega) (by simp; omega) ?_))
      intro ao7 cap7 w7 hown7 hU7 hn7
      have hU7' := grown_upd hU7
      have hnot : ∀ q, q ∈ (Value.slice ao i cap).ownBlock.toList → H + 3 ≤ q := fun q hm => (owns_lt OW5.out q (by simpa using hm)).1
      have FT7 := hide (FT5.out.upd hU7' (fun hm => by have := hnot _ hm; omega) (fun hm => by have := hnot _ hm; omega) (fun hm => by have := hnot _ hm; omega))
      have U7 := hide (U5.out.trans_new hU7' (fun q hq => .inr (by have := HH.out; have := hnot q hq; omega)))
      have OW7 := hide hown7
      have hz7 := hU7'.size
      clear hown7 hU7 hU7' hn7 hnot FT5 U5 OW5
      go_wp2_with fail
      go_roundw
      case rel => exact ⟨i + 1, ao7, cap7, by omega, rfl, by go_num, by rw [WN.out, List.map_append, HCU.out]; exact OW7.out, FT7.out, U7.out, by omega⟩
      case measure => simp [RowKit.intOf]; omega
    · have d5 : decide ((i : Int) < l.length) = false := by simp; omega
      have d5' : decide (i < l.length) = false := by simpa using hlt
      have hie : i = l.length := by omega
      subst hie
      go_wp2_with fail
      go_ret
      have h8 := OW.out
      rw [List.take_length] at h8
      refine ⟨⟨ao, cap, rfl, ?_⟩, HU.out⟩
      rw [HH.out]
      exact own_lower h8 (by omega)
end Go.Proofs.YthpnnffogbjhpaaGreatDoor.Kv
namespace Go.Proofs.YthpnnffogbjhpaaGreatDoor.Kv
set_option linter.unusedSimpArgs false
set_option linter.unusedVariables false
set_option linter.unnecessarySimpa false
open Go.RowKit Go.Proofs.YthpnnffogbjhpaaGreatDoor.Crc Go.Proofs.YthpnnffogbjhpaaGreatDoor.Cm

/-- The greatest next wave of those that are so. -/
def IsMx (P : Cm → Prop) (ps : List (Cm × Nat)) (x : Nat) : Prop := ∀ b, x ≤ b ↔ ∀ p ∈ ps, P p.1 → p.2 + 1 ≤ b
theorem IsMx.uniq {P : Cm → Prop} {ps : List (Cm × Nat)} {x y : Nat} (h : IsMx P ps x) (k : IsMx P ps y) : x = y :=
  Nat.le_antisymm ((h y).2 ((k y).1 (Nat.le_refl _))) ((k x).2 ((h x).1 (Nat.le_refl _)))
theorem IsMx.ext {P Q : Cm → Prop} {ps : List (Cm × Nat)} {x : Nat} (h : IsMx P ps x) (hpq : ∀ c, P c ↔ Q c) : IsMx Q ps x := fun b => by
  rw [h b]
  exact forall_congr' fun p => forall_congr' fun _ => by rw [hpq]
theorem IsMx.nil {P : Cm → Prop} : IsMx P [] 0 := fun b => by simp
theorem IsMx.snoc {P : Cm → Prop} {ps : List (Cm × Nat)} {x w : Nat} {c : Cm} (h : IsMx P ps x) (hw : P c → x ≤ w + 1) [Decidable (P c)] : IsMx P (ps ++ [(c, w)]) (if P c then w + 1 else x) := fun b => by
  by_cases hc : P c
  · rw [if_pos hc]
    constructor
    · intro hb p hp hP
      rcases List.mem_append.1 hp with hp | hp
      · exact (h b).1 (Nat.le_trans (hw hc) hb) p hp hP
      · rw [List.mem_singleton] at hp; subst hp; exact hb
    · intro hb
      exact hb (c, w) (by simp) hc
  · rw [if_neg hc, h b]
    constructor
    · intro hb p hp hP
      rcases List.mem_append.1 hp with hp | hp
      · exact hb p hp hP
      · rw [List.mem_singleton] at hp; subst hp; exact absurd hP hc
    · intro hb p hp hP
      exact hb p (List.mem_append_left _ hp) hP
theorem wvMax_iff {m : List (List UInt8 × Nat)} {b : Nat} : ∀ {l : List (List UInt8)} {w : Nat}, wvMax m l w ≤ b ↔ w ≤ b ∧ ∀ k ∈ l, at0 m k ≤ b
  | [], w => by simp [wvMax]
  | k :: l, w => by
    have e : wvMax m (k :: l) w = wvMax m l (max w (at0 m k)) := rfl
    rw [e, wvMax_iff, Nat.max_le]
    simp [and_assoc]
structure FtM (ps : List (Cm × Nat)) (f : Ft) : Prop where
  k : ∀ k, IsMx (fun c => k ∈ sortM c.keys) ps (at0 f.ks k)
  c : ∀ n, IsMx (fun c => c.client = n) ps (at0 f.cs n)
  l : IsMx (fun c => loneM c = true) ps f.lone
  t : IsMx (fun _ => True) ps f.top
theorem FtM.zero : FtM [] ft0 := ⟨fun _ => IsMx.nil, fun _ => IsMx.nil, IsMx.nil, IsMx.nil⟩
theorem FtM.w {ps : List (Cm × Nat)} {f : Ft} (h : FtM ps f) (d : Cm) : IsMx (fun c => Way c d) ps (ftW f d) := fun b => by
  unfold ftW
  by_cases hd : loneM d = true
  · rw [if_pos hd, h.t b]
    constructor
    · intro hb p hp _; exact hb p hp trivial
    · intro hb p hp _; exact hb p hp (.inr (.inr (.inr hd)))
  · rw [if_neg hd, wvMax_iff, Nat.max_le, h.l b, h.c d.client b]
    constructor
    · rintro ⟨⟨h1, h2⟩, h3⟩ p hp (e | ⟨k, hk, hk'⟩ | e | e)
      · exact h2 p hp e
      · exact (h.k k b).1 (h3 k hk') p hp hk
      · exact h1 p hp e
      · exact absurd e hd
    · intro hb
      exact ⟨⟨fun p hp e => hb p hp (.inr (.inr (.inl e))), fun p hp e => hb p hp (.inl e)⟩, fun k hk => (h.k k b).2 fun p hp e => hb p hp (.inr (.inl ⟨k, e, hk⟩))⟩
theorem IsMx.le {P Q : Cm → Prop} {ps : List (Cm × Nat)} {x y : Nat} (h : IsMx P ps x) (k : IsMx Q ps y) (hpq : ∀ c, P c → Q c) : x ≤ y :=
  (h y).2 fun p hp hP => (k y).1 (Nat.le_refl _) p hp (hpq _ hP)
theorem FtM.next {ps : List (Cm × Nat)} {f : Ft} (h : FtM ps f) (c : Cm) : FtM (ps ++ [(c, ftW f c)]) (ftNext f c) := by
  have hw := h.w c
  refine ⟨fun k => ?_, fun n => ?_, ?_, ?_⟩
  · have := (h.k k).snoc (c := c) (w := ftW f c) (fun hk => Nat.le_succ_of_le ((h.k k).le hw fun d hd => .inr (.inl ⟨k, hd, hk⟩)))
    show IsMx _ _ (at0 (wvPut f.ks (sortM c.keys) (ftW f c + 1)) k)
    rw [at0_wvPut]
    exact this
  · have := (h.c n).snoc (c := c) (w := ftW f c) (fun hk => Nat.le_succ_of_le ((h.c n).le hw fun d hd => .inl (hd.trans hk.symm)))
    show IsMx _ _ (at0 (mput cliK f.cs c.client (ftW f c + 1)) n)
    rw [at0_put]
    by_cases hn : n = c.client
    · rw [if_pos hn]; rw [if_pos hn.symm] at this; exact this
    · rw [if_neg hn]; rw [if_neg (fun e => hn e.symm)] at this; exact this
  · have := h.l.snoc (c := c) (w := ftW f c) (fun hk => Nat.le_succ_of_le (h.l.le hw fun d hd => .inr (.inr (.inl hd))))
    exact this
  · intro b
    show max f.top (ftW f c + 1) ≤ b ↔ _
    rw [Nat.max_le, h.t b]
    constructor
    · rintro ⟨h1, h2⟩ p hp hP
      rcases List.mem_append.1 hp with hp | hp
      · exact h1 p hp hP
      · rw [List.mem_singleton] at hp; subst hp; exact h2
    · intro hb
      exact ⟨fun p hp hP => hb p (List.mem_append_left _ hp) hP, hb (c, ftW f c) (by simp) trivial⟩
/-- The document's waves: each behind those ahead that are in its way. -/
def mxR (ps : List (Cm × Nat)) (d : Cm) [∀ c, Decidable (Way c d)] : Nat := ps.foldl (fun w p => if Way p.1 d then max w (p.2 + 1) else w) 0
theorem mx_foldl {d : Cm} [∀ c, Decidable (Way c d)] : ∀ (ps : List (Cm × Nat)) (w b : Nat), ps.foldl (fun w p => if Way p.1 d then max w (p.2 + 1) else w) w ≤ b ↔ w ≤ b ∧ ∀ p ∈ ps, Way p.1 d → p.2 + 1 ≤ b
  | [], w, b => by simp
  | p :: ps, w, b => by
    rw [List.foldl_cons, mx_foldl ps]
    by_cases hp : Way p.1 d
    · rw [if_pos hp, Nat.max_le]
      simp [hp, and_assoc]
    · rw [if_neg hp]
      simp [hp]
theorem mxR_is (ps : List (Cm × Nat)) (d : Cm) [∀ c, Decidable (Way c d)] : IsMx (fun c => Way c d) ps (mxR ps d) := fun b => by
  unfold mxR
  rw [mx_foldl]
  simp
theorem FtM.fold (l : List Cm) : ∀ i, i ≤ l.length → FtM ((l.take i).zip (wavesM (l.take i))) (ftAt l i) := by
  intro i
  induction i with
  | zero => intro _; exact FtM.zero
  | succ i ih =>
    intro h
    obtain ⟨c, hc⟩ : ∃ c, l[i]? = some c := ⟨_, List.getElem?_eq_getElem (by omega)⟩
    have h1 := (ih (by omega)).next c
    rw [ftAt_next hc, waves_next hc, List.take_add_one, hc]
    rw [List.zip_append (by rw [show (wavesM (l.take i)).length = (l.take i).length from waves_len _ ft0])]
    exact h1
/-- The places of a batch and their waves, as far as they are known. -/
def zipW (l : List Cm) (i : Nat) : List (Cm × Nat) := (l.take i).zip (wavesM (l.take i))
theorem zipW_len {l : List Cm} {i : Nat} (h : i ≤ l.length) : (zipW l i).length = i := by
  unfold zipW
  rw [List.length_zip, show (wavesM (l.take i)).length = (l.take i).length from waves_len _ ft0, List.length_take]
  omega
theorem waves_step {l : List Cm} {i : Nat} {c : Cm} [∀ a, Decidable (Way a c)] (h : l[i]? = some c) : wavesM (l.take (i + 1)) = wavesM (l.take i) ++ [mxR (zipW l i) c] := by
  have hi := (List.getElem?_eq_some_iff.1 h).1
  rw [waves_next h, ((FtM.fold l i (by omega)).w c).uniq (mxR_is _ c)]
  rfl
theorem zipW_at {l : List Cm} {i k : Nat} {c : Cm} {w : Nat} (hk : k < i) (hc : l[k]? = some c) (hw : (wavesM (l.take i))[k]? = some w) : (zipW l i)[k]? = some (c, w) := by
  unfold zipW
  rw [List.getElem?_zip_eq_some]
  exact ⟨by rw [List.getElem?_take_of_lt hk]; exact hc, hw⟩
/-- The greatest so far. -/
def mxP (ps : List (Cm × Nat)) (k : Nat) (d : Cm) [∀ c, Decidable (Way c d)] : Nat := mxR (ps.take k) d
theorem mxP_next {ps : List (Cm × Nat)} {k : Nat} {d c : Cm} {w : Nat} [∀ c, Decidable (Way c d)] (h : ps[k]? = some (c, w)) : mxP ps (k + 1) d = if Way c d then max (mxP ps k d) (w + 1) else mxP ps k d := by
  unfold mxP mxR
  rw [List.take_add_one, h, Option.toList_some, List.foldl_append]
  rfl
end Go.Proofs.YthpnnffogbjhpaaGreatDoor.Kv
namespace Go.Proofs.YthpnnffogbjhpaaGreatDoor.Kv
set_option linter.unusedSimpArgs false
set_option linter.unusedVariables false
set_option linter.unnecessarySimpa false
open Go.RowKit Go.Lib Go.Proofs.YthpnnffogbjhpaaGreatDoor.Crc Go.Proofs.YthpnnffogbjhpaaGreatDoor.Cm

theorem waves_lt {l : List Cm} (hs : ∀ c ∈ l, SmallC c) : ∀ i, i ≤ l.length → ∀ x ∈ wavesM (l.take i), x < i
  | 0, _ => by simp [wavesM, wavesF]
  | i + 1, h => fun x hx => by
    have hc : l[i]? = some l[i] := List.getElem?_eq_getElem (by omega)
    rw [waves_next hc, List.mem_append, List.mem_singleton] at hx
    rcases hx with hx | rfl
    · have := waves_lt hs i (by omega) x hx; omega
    · have h1 := FtB.at hs i (by omega)
      have := h1.ok.w (c := l[i])
      have := h1.top
      omega
theorem foldl_top_le {n : Nat} : ∀ (ws : List Nat) (m : Nat), m ≤ n → (∀ x ∈ ws, x < n) → ws.foldl (fun m w => max m (w + 1)) m ≤ n
  | [], m, h, _ => h
  | x :: ws, m, h, hw => by
    have := hw x (by simp)
    exact foldl_top_le ws (max m (x + 1)) (by omega) fun y hy => hw y (by simp [hy])
theorem topM_le {l : List Cm} (hs : ∀ c ∈ l, SmallC c) : topM (wavesM l) ≤ l.length := by
  refine foldl_top_le _ _ (by omega) fun x hx => ?_
  have := waves_lt hs l.length (Nat.le_refl _) x (by rwa [List.take_length])
  exact this
theorem made_row (v : Value) (n : Nat) : madeCells #[v] n = (List.replicate n v).toArray := by
  apply Array.ext
  · simp [madeCells]
  · intro i h1 h2
    simp [madeCells, Nat.mod_one]
set_option maxRecDepth 100000 in
set_option maxHeartbeats 4000000 in
theorem groups_any {T : Nat → Prop} {v : Value} {l : List Cm} (w : World) (h : cmK.row w T v l) (hs : Small l) :
    Calls Tryz.prog 92 #[v] w fun e w' => (∃ go, e = .returned (.slice go (topM (wavesM l)) (topM (wavesM l))) ∧ GsAt w' w.heap.size go (groupsM (wavesM l) (topM (wavesM l)))) ∧ Upd [] w w' := by
  obtain ⟨i1, hi1, iz0, iz1, iz2⟩ := partsI infoI
  obtain ⟨i2, hi2, jz0, jz1, jz2⟩ := partsI infoSI
  obtain ⟨xo, cp, rfl, h1, h2, hg⟩ := cm_get h
  have ROW := hide h; have HS := hide hs
  have hl100 := hs.1
  have htl := topM_le hs.2
  have hwl : (wavesM l).length = l.length := waves_len l ft0
  simp only [maxLen] at h2
  have hwa := waves_any w h hs
  have htop : wavesM l ≠ [] → topM (wavesM l) = maxN (wavesM l) + 1 := topM_max
  have hlt := top_gt (ws := wavesM l)
  clear h hg hs ROW HS
  generalize hws : wavesM l = ws at *
  generalize hn : l.length = n at *
  generalize hto : topM ws = top at *
  have HWA := hide hwa; have HTO := hide hto
  clear hwa hws hto
  go_enter Tryz.func92, Tryz.ntmps92
  go_wp2_with fail
  refine HWA.out.mono ?_
  rintro e w1 ⟨⟨ao, cap, rfl, ho⟩, hu1⟩
  have hin := IntsAt.own ho
  have U1 := hide hu1; have IN1 := hide hin; have HLT := hide hlt; have OW1 := hide ho
  clear ho hu1 hin hlt HWA
  by_cases h0 : n = 0
  · have hwe : ws = [] := List.eq_nil_of_length_eq_zero (by omega)
    have d0 : ((n : Int) == 0) = true := by rw [beq_iff_eq]; omega
    have HWE := hide hwe
    have htz : top = 0 := by rw [← HTO.out, hwe]; rfl
    have HTZ := hide htz
    clear hwe htop hn htz
    go_wp2_with fail
    go_ret
    refine ⟨⟨none, by rw [HTZ.out]; rfl, ?_⟩, U1.out⟩
    rw [HTZ.out]
    intro j g hj
    simp [groupsM] at hj
  · have d0 : ((n : Int) == 0) = false := by rw [beq_eq_false_iff_ne]; omega
    have hne : ws ≠ [] := by rintro rfl; simp at hwl; omega
    have htp := htop hne
    have HTP := hide htp
    clear htop hn hne
    go_wp2_with fail
    refine (max_any w1 IN1.out (by omega) (by omega)).mono ?_
    rintro e w2 ⟨rfl, rfl⟩
    have e1 : ((maxN ws : Nat) : Int) + 1 = (top : Int) := by omega
    have hmk := fun wx => run_make_rowN (P := Tryz.prog) 158 59 i2 (.slice none 0 0) Tryz.underlying158 hi2 jz0 .i64 .i64 top top (Nat.le_refl _) (by rw [jz2]; omega) (by omega) wx
    rw [jz1, Nat.mul_one, show (Value.slice none 0 0).cells = #[.slice none 0 0] from rfl] at hmk
    simp only [made_row] at hmk
    clear htp HTP
    go_wp2_with fail
    obtain ⟨g, hg⟩ : ∃ g, w1.heap.size = g := ⟨_, rfl⟩
    have hB := blk_new w1 (.cells (Array.replicate top (.slice none 0 0)) 59)
    have hu2 := (Upd.refl [] w1).alloc (.cells (Array.replicate top (.slice none 0 0)) 59)
    have hwb : ∀ a, ao = some a → n ≠ 0 → a.block < g := fun a e h0 => by
      obtain ⟨x, hx⟩ : ∃ x, ws[0]? = some x := ⟨_, List.getElem?_eq_getElem (by omega)⟩
      obtain ⟨b, e2, hc⟩ := IN1.out.get hx
      rw [e] at e2
      cases e2
      have := World.block_lt_of_cell? w1 _ hc
      rw [add_block] at this
      omega
    have hz2 : (w1.alloc (.cells (Array.replicate top (.slice none 0 0)) 59)).heap.size = g + 1 := by simp [hg]
    generalize w1.alloc (.cells (Array.replicate top (.slice none 0 0)) 59) = w2 at *
    rw [← List.toArray_replicate] at hB
    rw [hg] at hB ⊢
    have hgs := grIs_new (base := g + 1) hB
    rw [← grp_zero ws top] at hgs
    have hzw := U1.out.size
    rw [hg] at hzw
    have G2 := hide hgs; have U2 := hide (U1.out.trans hu2); have IN2 := hide (IN1.out.upd hu2 (by simp)); have HWB := hide hwb
    clear hB hu2 hgs hg hwb U1 IN1 OW1
    go_loopw [17] (fun si wr => ∃ (i : Nat) (cs : List Value), i ≤ n ∧ si = .int .i64 i ∧ GrIs wr (g + 1) g (grpN ws top i) cs ∧ Upd [] w wr ∧ IntsAt wr w.heap.size ao n cap ws ∧ g + 1 ≤ wr.heap.size) (fun si _ => n - (RowKit.intOf si).toNat)
    case atStart => exact ⟨0, _, by omega, rfl, G2.out, U2.out, IN2.out, by omega⟩
    case round =>
      obtain ⟨i, cs, hi, rfl, hgr, hu, hin, hsz⟩ := hrel
      have GR := hide hgr; have HU := hide hu; have IN := hide hin
      clear hgr hu hin hz2 G2 U2 IN2
      by_cases hlt : i < n
      · have d5 : decide ((i : Int) < n) = true := by simp; omega
        have d5' : decide (i < n) = true := by simpa using hlt
        obtain ⟨x, hx⟩ : ∃ x, ws[i]? = some x := ⟨_, List.getElem?_eq_getElem (by omega)⟩
        obtain ⟨a, rfl, hca⟩ := IN.out.get hx
        have hxt : x < top := HLT.out x (List.mem_of_getElem? hx)
        obtain ⟨gl, hgl⟩ : ∃ gl, (grpN ws top i)[x]? = some gl := ⟨_, List.getElem?_eq_getElem (by rw [grp_len]; exact hxt)⟩
        have hgd : ws.getD i 0 = x := by simp [List.getD, hx]
        have hstep := grp_step hgd hgl
        obtain ⟨a2, c2, hcs, hog⟩ := GR.out.row x gl hgl
        have hcg : wr.cell? ⟨g, x, none⟩ = some (.slice a2 gl.length c2) := blk_cell GR.out.blk (by simpa using hcs)
        have hgln : gl.length ≤ 1000 := by
          have hm := List.mem_of_getElem? hgl
          obtain ⟨q, _, rfl⟩ := List.mem_map.1 hm
          have := List.length_filter_le (fun j => decide (ws.getD j 0 = q)) (List.range i)
          simp at this ⊢
          omega
        have hlo := owns_lt hog
        have HST := hide hstep; have HGL := hide hgl; have HCS := hide hcs; have HOG := hide hog; have HLO := hide hlo; have HXX := hide hx
        clear hstep hgl hcs hog hgd hlo hx
        go_upto_region 8 with fail
        refine wp_region_z (fun wx => wx.cell? (a.add i) = some (.int .i64 (x : Int)) ∧ wx.cell? ⟨g, x, none⟩ = some (.slice a2 gl.length c2)) 16 (by kernel_rfl) ?_
        refine zE 0 rfl (by kernel_rfl) (fun _ _ _ _ h => h) rfl (by exact ⟨hca, hcg⟩) ?_
        apply Exists.intro
        refine ⟨fun wx hS => ?_, ?_⟩
        · obtain ⟨s0, s1⟩ := hS; go_simp; rfl
        simp only [Act.put, List.setIfInBounds_toArray, List.set_cons_succ, List.set_cons_zero, List.getElem_toArray, List.getElem_cons_zero]
        refine zE 1 rfl (by kernel_rfl) (fun _ _ _ _ h => h) rfl (by exact ⟨hca, hcg⟩) ?_
        apply Exists.intro
        refine ⟨fun wx hS => ?_, ?_⟩
        · obtain ⟨s0, s1⟩ := hS; go_simp; rfl
        simp only [Act.put, zz1, zz2, zz3, zz4, zz5, zz6]
        refine zE 2 rfl (by kernel_rfl) (fun _ _ _ _ h => h) rfl (by exact ⟨hca, hcg⟩) ?_
        apply Exists.intro
        refine ⟨fun wx hS => ?_, ?_⟩
        · obtain ⟨s0, s1⟩ := hS; go_simp; rfl
        simp only [Act.put, zz1, zz2, zz3, zz4, zz5, zz6]
        refine zE 3 rfl (by kernel_rfl) (fun _ _ _ _ h => h) rfl (by exact ⟨hca, hcg⟩) ?_
        apply Exists.intro
        refine ⟨fun wx hS => ?_, ?_⟩
        · obtain ⟨s0, s1⟩ := hS; go_simp; rfl
        simp only [Act.put, zz1, zz2, zz3, zz4, zz5, zz6]
        refine zE 4 rfl (by kernel_rfl) (fun _ _ _ _ h => h) rfl (by exact ⟨hca, hcg⟩) ?_
        apply Exists.intro
        refine ⟨fun wx hS => ?_, ?_⟩
        · obtain ⟨s0, s1⟩ := hS; go_simp; rfl
        simp only [Act.put, zz1, zz2, zz3, zz4, zz5, zz6]
        refine zE 5 rfl (by kernel_rfl) (fun _ _ _ _ h => h) rfl (by exact ⟨hca, hcg⟩) ?_
        apply Exists.intro
        refine ⟨fun wx hS => ?_, ?_⟩
        · obtain ⟨s0, s1⟩ := hS; go_simp; rfl
        simp only [Act.put, zz1, zz2, zz3, zz4, zz5, zz6]
        refine zE 6 rfl (by kernel_rfl) (fun _ _ _ _ h => h) rfl (by exact ⟨hca, hcg⟩) ?_
        apply Exists.intro
        refine ⟨fun wx hS => ?_, ?_⟩
        · obtain ⟨s0, s1⟩ := hS; go_simp; rfl
        simp only [Act.put, zz1, zz2, zz3, zz4, zz5, zz6]
        refine zE 7 rfl (by kernel_rfl) (fun _ _ _ _ h => h) rfl (by exact ⟨hca, hcg⟩) ?_
        apply Exists.intro
        refine ⟨fun wx hS => ?_, ?_⟩
        · obtain ⟨s0, s1⟩ := hS; go_simp; rfl
        simp only [Act.put, zz1, zz2, zz3, zz4, zz5, zz6]
        refine zE 8 rfl (by kernel_rfl) (fun _ _ _ _ h => h) rfl (by exact ⟨hca, hcg⟩) ?_
        apply Exists.intro
        refine ⟨fun wx hS => ?_, ?_⟩
        · obtain ⟨s0, s1⟩ := hS; go_simp; rfl
        simp only [Act.put, zz1, zz2, zz3, zz4, zz5, zz6]
        refine zE 9 rfl (by kernel_rfl) (fun _ _ _ _ h => h) rfl (by exact ⟨hca, hcg⟩) ?_
        apply Exists.intro
        refine ⟨fun wx hS => ?_, ?_⟩
        · obtain ⟨s0, s1⟩ := hS; go_simp; rfl
        simp only [Act.put, zz1, zz2, zz3, zz4, zz5, zz6]
        refine zE 10 rfl (by kernel_rfl) (fun _ _ _ _ h => h) rfl (by exact ⟨hca, hcg⟩) ?_
        apply Exists.intro
        refine ⟨fun wx hS => ?_, ?_⟩
        · obtain ⟨s0, s1⟩ := hS; go_simp; rfl
        simp only [Act.put, zz1, zz2, zz3, zz4, zz5, zz6]
        refine zE 11 rfl (by kernel_rfl) (fun _ _ _ _ h => h) rfl (by exact ⟨hca, hcg⟩) ?_
        apply Exists.intro
        refine ⟨fun wx hS => ?_, ?_⟩
        · obtain ⟨s0, s1⟩ := hS; go_simp; rfl
        simp only [Act.put, zz1, zz2, zz3, zz4, zz5, zz6]
        refine zE 12 rfl (by kernel_rfl) (fun _ _ _ _ h => h) rfl (by exact ⟨hca, hcg⟩) ?_
        apply Exists.intro
        refine ⟨fun wx hS => ?_, ?_⟩
        · obtain ⟨s0, s1⟩ := hS; go_simp; rfl
        simp only [Act.put, zz1, zz2, zz3, zz4, zz5, zz6]
        refine wpAnyZ_one 13 (by kernel_rfl) rfl rfl (fun K hK => ?_)
        try simp only [List.getElem_toArray, List.getElem_cons_succ, List.getElem_cons_zero]
        go_simp
        have hal := ((Upd.refl [] wr).drewN 1).alloc (.cells #[.int .i64 (i : Int)] 3)
        have hca1 : ((wr.drewN 1).alloc (.cells #[.int .i64 (i : Int)] 3)).cell? (a.add i) = some (.int .i64 (x : Int)) := by
          obtain ⟨a', e, h⟩ := (IN.out.upd hal (by simp)).get HXX.out
          cases e
          exact h
        have hcg1 : ((wr.drewN 1).alloc (.cells #[.int .i64 (i : Int)] 3)).cell? ⟨g, x, none⟩ = some (.slice a2 gl.length c2) := blk_cell (hal.get GR.out.blk (by simp)) (by simpa using HCS.out)
        refine hK _ _ (.inr ⟨hca1, hcg1⟩) ?_
        clear hK K
        try simp only [Act.put, zz1, zz2, zz3]
        refine wpAnyZ_one 14 (by kernel_rfl) rfl rfl (fun K hK => ?_)
        try simp only [List.getElem_toArray, List.getElem_cons_succ, List.getElem_cons_zero]
        refine wp_append_src _ _ _ 59 rfl (g + 1) 3 i1 (.int .i64 0) 1 8 Tryz.underlying59 hi1 iz0 iz1 iz2 rfl (by decide) (.slice a2 gl.length c2) gl.length (gl.map nV) rfl (by exact owns_upd HOG.out hal (by simp)) (some ⟨(wr.drewN 1).heap.size, 0, none⟩) 1 1 [nV i] rfl (src_one (cell_new1 rfl) rfl) (by unfold maxLen; omega) (by omega) (by simp; omega) ?_
        intro ao7 cap7 w7 hown7 hU7 hn7
        have hU7' : Upd (Value.slice a2 gl.length c2).ownBlock.toList wr w7 := (hal.mono (by simp)).trans hU7
        have hn7' : ∀ b, (Value.slice ao7 (gl.length + 1) cap7).ownBlock = some b → (Value.slice a2 gl.length c2).ownBlock = some b ∨ wr.heap.size ≤ b := fun b hb => (hn7 b hb).imp id fun h => by simp at h; omega
        have hnw : ∀ b, some a = some b → n ≠ 0 → b.block ∉ (Value.slice a2 gl.length c2).ownBlock.toList := fun b e h0' hm => by
          have h1 := HWB.out b e h0'
          have h2 := (HLO.out b.block (by simpa using hm)).1
          omega
        have hng : g ∉ (Value.slice a2 gl.length c2).ownBlock.toList := fun hm => by have := (HLO.out g (by simpa using hm)).1; omega
        have IN7 := hide (IN.out.updF hU7' hnw)
        have hg7 := hU7'.get GR.out.blk hng
        have hca7 : w7.cell? (a.add i) = some (.int .i64 (x : Int)) := by
          obtain ⟨a', e, h⟩ := IN7.out.get HXX.out
          cases e
          exact h
        have hcg7 : w7.cell? ⟨g, x, none⟩ = some (.slice a2 gl.length c2) := blk_cell hg7 (by simpa using HCS.out)
        have hfg7 : w7.frozen? ⟨g, x, none⟩ = false := blk_free hg7
        have GS := hide (GR.out.step (x := x) (i := i) (by omega) HGL.out HCS.out hU7' hown7 hn7')
        have U7 := hide (HU.out.trans_new hU7' (fun q hq => .inr (by have := (HLO.out q (by simpa using hq)).1; omega)))
        have hz7 := hU7'.size
        clear hown7 hU7 hU7' hn7 hn7' hnw hng hg7 hal hca hcg hca1 hcg1
        refine hK _ _ (.inr ⟨hca7, hcg7⟩) ?_
        clear hK K
        try simp only [Act.put, zz1, zz2, zz3]
        refine wpAnyZ_one 15 (by kernel_rfl) rfl rfl (fun K hK => ?_)
        try simp only [List.getElem_toArray, List.getElem_cons_succ, List.getElem_cons_zero]
        go_simp
        refine hK _ _ (.inr ⟨hca7, hcg7⟩) ?_
        clear hK K
        try simp only [Act.put, zz1, zz2, zz3]
        refine wpAnyZ_one 16 (by kernel_rfl) rfl rfl (fun K hK => ?_)
        try simp only [List.getElem_toArray, List.getElem_cons_succ, List.getElem_cons_zero]
        go_simp
        refine hK _ _ (.inl rfl) ?_
        clear hK K
        try simp only [Act.put, zz1, zz2, zz3]
        refine wpAnyZ_done (by kernel_rfl) ?_ _
        have hset : Upd [g] w7 (w7.setCell ⟨g, x, none⟩ (.slice ao7 (gl.length + 1) cap7)) := (Upd.refl [g] w7).setCell (p := ⟨g, x, none⟩) (.inl (by simp)) _
        have IN8 := hide (IN7.out.updF hset (fun b e h0' hm => by have := HWB.out b e h0'; simp at hm; omega))
        have U8 := hide (U7.out.trans_new hset (fun q hq => .inr (by simp at hq; omega)))
        have hz8 := hset.size
        clear hset hca7 hcg7 hfg7
        generalize w7.setCell ⟨g, x, none⟩ (.slice ao7 (gl.length + 1) cap7) = w8 at *
        go_wp2_with fail
        go_roundw
        case rel => exact ⟨i + 1, _, by omega, by go_num, by rw [HST.out]; exact GS.out, U8.out, IN8.out, by omega⟩
        case measure => simp [RowKit.intOf]; omega
      · have d5 : decide ((i : Int) < n) = false := by simp; omega
        have d5' : decide (i < n) = false := by simpa using hlt
        have hie : i = n := by omega
        have hwn : ws.length = n := hwl
        subst hie
        go_wp2_with fail
        go_ret
        have hgr := GR.out
        rw [← hwn, grp_all] at hgr
        refine ⟨⟨_, rfl, fun j gl hj => ?_⟩, HU.out⟩
        obtain ⟨a1, c1, hc1, ho1⟩ := hgr.row j gl hj
        refine ⟨g, a1, c1, rfl, by omega, blk_lt hgr.blk, blk_cell hgr.blk (by simpa using hc1), IntsAt.own (own_lower ho1 (by omega))⟩
end Go.Proofs.YthpnnffogbjhpaaGreatDoor.Kv
