/- R12a, R12b in one text. -/
import Derived.Test.YthpnnffogbjhpaaGreatDoorKvRq
import Derived.Test.YthpnnffogbjhpaaGreatDoorKvQD
import Derived.Test.YthpnnffogbjhpaaGreatDoorKvPure
import Derived.Test.YthpnnffogbjhpaaGreatDoorWvWG
import Derived.Test.YthpnnffogbjhpaaGreatDoorWvRows
import Derived.Test.YthpnnffogbjhpaaGreatDoorKvGH
import Derived.Test.YthpnnffogbjhpaaGreatDoorGenAll
set_option linter.unusedSimpArgs false
set_option linter.unusedVariables false
set_option linter.unnecessarySimpa false
namespace Go.Proofs.YthpnnffogbjhpaaGreatDoor.Kv
set_option linter.unusedSimpArgs false
set_option linter.unusedVariables false
set_option linter.unnecessarySimpa false
open Go.RowKit Go.Lib Go.Proofs.YthpnnffogbjhpaaGreatDoor.Crc Go.Proofs.YthpnnffogbjhpaaGreatDoor.Cm

set_option maxRecDepth 100000 in
set_option maxHeartbeats 2000000 in
theorem rlone_any {T : Nat → Prop} {v : Value} {c : Cm} (w : World) (hc : CmAt w T v c) (hk : c.keys.length ≤ 1000) :
    Calls Tryz.prog 90 #[v] w fun e w' => e = .returned (.bool (loneM c)) ∧ Upd [] w w' := by
  obtain ⟨fit, ks, rfl, hks⟩ := hc
  obtain ⟨xo, cp, rfl, h1, h2, hget⟩ := hks.get
  have KS := hide hks; have FIT := hide fit
  obtain ⟨n, hn⟩ : ∃ n, (sortM c.keys).length = n := ⟨_, rfl⟩
  have hl : loneM c = decide (4 < n) := by unfold loneM; rw [hn]
  have HN := hide hn
  rw [hl]
  clear hget hks fit hn hl
  unfold cmv
  simp only [strV]
  go_enter Tryz.func90, Tryz.ntmps90
  go_upto_region 1 with fail
  have hB := blk_new w (.cells (cmc c (.slice xo c.keys.length cp)).toArray TCmd)
  have hu := (Upd.refl [] w).alloc (.cells (cmc c (.slice xo c.keys.length cp)).toArray TCmd)
  change Code.wp _ _ _ _ (w.alloc (.cells (cmc c (.slice xo c.keys.length cp)).toArray TCmd))
  generalize w.alloc (.cells (cmc c (.slice xo c.keys.length cp)).toArray TCmd) = w1 at *
  have CB := hide hB; have U1 := hide hu
  clear hB hu
  obtain ⟨b0, b1, b2, b3, b4, b5, b6⟩ := cell7 CB.out
  go_wp2_with fail
  have hda := rtouch_any (c := c) (T := T) (v := cmv c (.slice xo c.keys.length cp)) w1 ⟨FIT.out, _, rfl, KS.out.upd_nil U1.out⟩ hk
  simp only [cmv, strV] at hda
  refine hda.mono ?_
  rintro e w2 ⟨⟨v', rfl, hs⟩, hu2⟩
  obtain ⟨yo, yp, rfl, -, -, -⟩ := hs.get
  rw [HN.out]
  have U2 := hide (U1.out.trans hu2)
  have d0 : decide ((n : Int) > 4) = decide (4 < n) := by
    apply decide_eq_decide.2
    omega
  have d1 : decide ((4 : Int) < (n : Int)) = decide (4 < n) := by
    apply decide_eq_decide.2
    omega
  clear hda hs hu2 b0 b1 b2 b3 b4 b5 b6
  go_wp2_with fail
  go_ret
  exact ⟨by rw [Ending.returned.injEq]; simp [d1], U2.out⟩
theorem mem_key {c d : Cm} {i j : Nat} {x : List UInt8} (h1 : c.keys[i]? = some x) (h2 : d.keys[j]? = some x) : Way c d :=
  .inr (.inl ⟨x, ((sortM_says _).2 _).2 (List.mem_of_getElem? h1), ((sortM_says _).2 _).2 (List.mem_of_getElem? h2)⟩)
theorem way_no {c d : Cm} (h : ∀ (i j : Nat) (x : List UInt8), c.keys[i]? = some x → d.keys[j]? ≠ some x) (hl : loneM c = false) (hd : loneM d = false) (hc : c.client ≠ d.client) : ¬ Way c d := by
  rintro (e | ⟨k, h1, h2⟩ | e | e)
  · exact hc e
  · obtain ⟨i, hi⟩ := List.getElem?_of_mem (((sortM_says _).2 _).1 h1)
    obtain ⟨j, hj⟩ := List.getElem?_of_mem (((sortM_says _).2 _).1 h2)
    exact h i j k hi hj
  · rw [hl] at e; cases e
  · rw [hd] at e; cases e
set_option maxRecDepth 100000 in
set_option maxHeartbeats 4000000 in
theorem rway_any {T U : Nat → Prop} {va vb : Value} {a b : Cm} (w : World) (ha : CmAt w T va a) (hb : CmAt w U vb b) (hka : a.keys.length ≤ 1000) (hkb : b.keys.length ≤ 1000) :
    Calls Tryz.prog 57 #[va, vb] w fun e w' => (∃ r, e = .returned (.bool r) ∧ (r = true ↔ Way a b)) ∧ Upd [] w w' := by
  obtain ⟨fitA, ksA, rfl, hksA⟩ := ha
  obtain ⟨xo, cp, rfl, h1, h2, hgA⟩ := hksA.get
  obtain ⟨fitB, ksB, rfl, hksB⟩ := hb
  obtain ⟨yo, yp, rfl, h3, h4, hgB⟩ := hksB.get
  have KA := hide hksA; have KB := hide hksB; have FA := hide fitA; have FB := hide fitB; have GA := hide hgA; have GB := hide hgB
  clear hgA hgB hksA hksB fitA fitB
  unfold cmv
  simp only [strV]
  go_enter Tryz.func57, Tryz.ntmps57
  go_upto_region 1 with fail
  have hB1 := blk_alloc (blk_new w (.cells (cmc a (.slice xo a.keys.length cp)).toArray TCmd)) (.cells (cmc b (.slice yo b.keys.length yp)).toArray TCmd)
  have hB2 := blk_new (w.alloc (.cells (cmc a (.slice xo a.keys.length cp)).toArray TCmd)) (.cells (cmc b (.slice yo b.keys.length yp)).toArray TCmd)
  have hu := ((Upd.refl [] w).alloc (.cells (cmc a (.slice xo a.keys.length cp)).toArray TCmd)).alloc (.cells (cmc b (.slice yo b.keys.length yp)).toArray TCmd)
  simp only [World.size_alloc] at hB2
  change Code.wp _ _ _ _ ((w.alloc (.cells (cmc a (.slice xo a.keys.length cp)).toArray TCmd)).alloc (.cells (cmc b (.slice yo b.keys.length yp)).toArray TCmd))
  generalize (w.alloc (.cells (cmc a (.slice xo a.keys.length cp)).toArray TCmd)).alloc (.cells (cmc b (.slice yo b.keys.length yp)).toArray TCmd) = w1 at *
  obtain ⟨B, hBs⟩ : ∃ B, w.heap.size = B := ⟨_, rfl⟩
  rw [hBs] at hB1 hB2 ⊢
  have C1 := hide hB1; have C2 := hide hB2; have U1 := hide hu
  clear hB1 hB2 hu hBs
  go_wp2_with fail
  go_loopw [5] (fun si wr => ∃ i : Nat, i ≤ a.keys.length ∧ si = .int .i64 i ∧ (∀ (k j : Nat) (x : List UInt8), k < i → a.keys[k]? = some x → b.keys[j]? ≠ some x) ∧ Upd [] w1 wr) (fun si _ => a.keys.length - (RowKit.intOf si).toNat)
  case atStart => exact ⟨0, by omega, rfl, fun k j x hk => by omega, Upd.refl _ _⟩
  case round =>
    obtain ⟨i, hi, rfl, hall, hu⟩ := hrel
    have HALL := hide hall; have HU := hide hu
    obtain ⟨a0, a1, a2, a3, a4, a5, a6⟩ := cell7 (hu.get C1.out (by simp))
    clear hall hu
    by_cases hlt : i < a.keys.length
    · have d5 : decide ((i : Int) < a.keys.length) = true := by simp; omega
      have d5' : decide (i < a.keys.length) = true := by simpa using hlt
      obtain ⟨x, hx⟩ : ∃ x, a.keys[i]? = some x := ⟨_, List.getElem?_eq_getElem hlt⟩
      obtain ⟨ba, oa, rfl, hba, hca⟩ := GA.out i x hx
      have HX := hide hx; have HCA := hide hca
      clear hx hca
      go_wp2_with fail
      clear a0 a1 a2 a3 a4 a5 a6
      go_loopw [6] (fun sj wr2 => ∃ j : Nat, j ≤ b.keys.length ∧ sj = .int .i64 j ∧ (∀ k, k < j → b.keys[k]? ≠ some x) ∧ Upd [] w1 wr2) (fun sj _ => b.keys.length - (RowKit.intOf sj).toNat)
      case atStart => exact ⟨0, by omega, rfl, fun k hk => by omega, HU.out⟩
      case round =>
        obtain ⟨j, hj, rfl, hall2, hu2⟩ := hrel
        have HALL2 := hide hall2; have HU2 := hide hu2
        obtain ⟨a0, a1, a2, a3, a4, a5, a6⟩ := cell7 (hu2.get C1.out (by simp))
        obtain ⟨b0, b1, b2, b3, b4, b5, b6⟩ := cell7 (hu2.get C2.out (by simp))
        have ca := cell_upd HCA.out (U1.out.trans hu2) (by simp)
        clear hall2 a0 a1 a2 a4 a5 a6 b0 b1 b2 b4 b5 b6
        by_cases hlj : j < b.keys.length
        · have d6 : decide ((j : Int) < b.keys.length) = true := by simp; omega
          have d6' : decide (j < b.keys.length) = true := by simpa using hlj
          obtain ⟨y, hy⟩ : ∃ y, b.keys[j]? = some y := ⟨_, List.getElem?_eq_getElem hlj⟩
          obtain ⟨bb, ob, rfl, hbb, hcb⟩ := GB.out j y hy
          have cb := cell_upd hcb (U1.out.trans hu2) (by simp)
          have HY := hide hy
          have a3n : ∀ n, (wr.drewN n).cell? ⟨B, 3, none⟩ = some (.slice (some ⟨ba, oa, none⟩) a.keys.length cp) := fun n => a3
          have b3n : ∀ n, (wr.drewN n).cell? ⟨B + 1, 3, none⟩ = some (.slice (some ⟨bb, ob, none⟩) b.keys.length yp) := fun n => b3
          have can : ∀ n, (wr.drewN n).cell? ⟨ba, oa + i, none⟩ = some (.string (strOf x)) := fun n => ca
          have cbn : ∀ n, (wr.drewN n).cell? ⟨bb, ob + j, none⟩ = some (.string (strOf y)) := fun n => cb
          clear hy hcb hu2
          by_cases hxy : x = y
          · have hq : ((strOf x).toList == (strOf y).toList) = true := by rw [strOf_eq]; simpa using hxy
            have HW := hide (mem_key HX.out (show b.keys[j]? = some x by rw [hxy]; exact HY.out))
            clear hxy
            go_wp2_with fail
            go_big_quiet (fail)
            go_wp2_with fail
            go_ret
            exact ⟨⟨true, rfl, fun _ => HW.out, fun _ => rfl⟩, U1.out.trans (HU2.out.drewN _)⟩
          · have hq : ((strOf x).toList == (strOf y).toList) = false := by rw [strOf_eq]; simpa using hxy
            have HN := hide (show b.keys[j]? ≠ some x by rw [HY.out]; intro e; cases e; exact hxy rfl)
            clear hxy
            go_wp2_with fail
            go_big_quiet (fail)
            go_wp2_with fail
            go_roundw
            case rel => exact ⟨j + 1, by omega, by go_num, fun k hk => by
              rcases Nat.lt_or_ge k j with h | h
              · exact HALL2.out k h
              · rw [show k = j by omega]; exact HN.out, HU2.out.drewN _⟩
            case measure => simp [RowKit.intOf]; omega
        · have d6 : decide ((j : Int) < b.keys.length) = false := by simp; omega
          have d6' : decide (j < b.keys.length) = false := by simpa using hlj
          clear hu2
          go_wp2_with fail
          go_roundw
          case rel => exact ⟨i + 1, by omega, by go_num, fun k j' y hk hy => by
            rcases Nat.lt_or_ge k i with h | h
            · exact HALL.out k j' y h hy
            · rw [show k = i by omega, HX.out] at hy
              cases hy
              intro hy'
              exact HALL2.out j' (by have := (List.getElem?_eq_some_iff.1 hy').1; omega) hy', HU2.out⟩
          case measure => simp [RowKit.intOf]; omega
    · have d5 : decide ((i : Int) < a.keys.length) = false := by simp; omega
      have d5' : decide (i < a.keys.length) = false := by simpa using hlt
      have hall3 : ∀ (i j : Nat) (x : List UInt8), a.keys[i]? = some x → b.keys[j]? ≠ some x := fun k j x hk => HALL.out k j x (by have := (List.getElem?_eq_some_iff.1 hk).1; omega) hk
      have H3 := hide hall3
      obtain ⟨b0, b1, b2, b3, b4, b5, b6⟩ := cell7 (HU.out.get C2.out (by simp))
      clear hlt hall3
      obtain ⟨a0, a1, a2, a3, a4, a5, a6⟩ := cell7 (HU.out.get C1.out (by simp))
      obtain ⟨la, hla⟩ : ∃ x, loneM a = x := ⟨_, rfl⟩
      obtain ⟨lb, hlb⟩ : ∃ x, loneM b = x := ⟨_, rfl⟩
      have HLA := hide hla; have HLB := hide hlb
      clear hla hlb
      go_wp2_with fail
      have hra := rlone_any (c := a) (T := T) (v := cmv a (.slice xo a.keys.length cp)) wr ⟨FA.out, _, rfl, KA.out.upd_nil (U1.out.trans HU.out)⟩ hka
      simp only [cmv, strV] at hra
      rw [HLA.out] at hra
      refine hra.mono ?_
      rintro e w3 ⟨rfl, hu3⟩
      have U3 := hide ((U1.out.trans HU.out).trans hu3); have V3 := hide (HU.out.trans hu3)
      clear hra hu3 a0 a1 a2 a3 a4 a5 a6 b0 b1 b2 b3 b4 b5 b6
      cases la with
      | true =>
        go_wp2_with fail
        go_ret
        exact ⟨⟨true, rfl, fun _ => .inr (.inr (.inl HLA.out)), fun _ => rfl⟩, U3.out⟩
      | false =>
        obtain ⟨b0, b1, b2, b3, b4, b5, b6⟩ := cell7 (V3.out.get C2.out (by simp))
        go_wp2_with fail
        have hrb := rlone_any (c := b) (T := U) (v := cmv b (.slice yo b.keys.length yp)) w3 ⟨FB.out, _, rfl, KB.out.upd_nil U3.out⟩ hkb
        simp only [cmv, strV] at hrb
        rw [HLB.out] at hrb
        refine hrb.mono ?_
        rintro e w4 ⟨rfl, hu4⟩
        have U4 := hide (U3.out.trans hu4); have V4 := hide (V3.out.trans hu4)
        clear hrb hu4 b0 b1 b2 b3 b4 b5 b6
        cases lb with
        | true =>
          go_wp2_with fail
          go_ret
          exact ⟨⟨true, rfl, fun _ => .inr (.inr (.inr HLB.out)), fun _ => rfl⟩, U4.out⟩
        | false =>
          obtain ⟨a0, a1, a2, a3, a4, a5, a6⟩ := cell7 (V4.out.get C1.out (by simp))
          obtain ⟨b0, b1, b2, b3, b4, b5, b6⟩ := cell7 (V4.out.get C2.out (by simp))
          clear a1 a2 a3 a4 a5 a6 b1 b2 b3 b4 b5 b6
          by_cases hcc : a.client = b.client
          · have d7 : ((a.client : Int) == (b.client : Int)) = true := by simp; omega
            have HC := hide hcc
            clear hcc
            go_wp2_with fail
            go_ret
            exact ⟨⟨true, rfl, fun _ => .inl HC.out, fun _ => rfl⟩, U4.out⟩
          · have d7 : ((a.client : Int) == (b.client : Int)) = false := by simp; omega
            have HC := hide (way_no H3.out HLA.out HLB.out hcc)
            clear hcc
            go_wp2_with fail
            go_ret
            exact ⟨⟨false, rfl, fun h => (by cases h), fun h => absurd h HC.out⟩, U4.out⟩
end Go.Proofs.YthpnnffogbjhpaaGreatDoor.Kv
namespace Go.Proofs.YthpnnffogbjhpaaGreatDoor.Kv
set_option linter.unusedSimpArgs false
set_option linter.unusedVariables false
set_option linter.unnecessarySimpa false
open Go.RowKit Go.Lib Go.Proofs.YthpnnffogbjhpaaGreatDoor.Crc Go.Proofs.YthpnnffogbjhpaaGreatDoor.Cm

open Classical in
noncomputable def mxC (l : List Cm) (i k : Nat) (c : Cm) : Nat := mxP (zipW l i) k c
theorem mxC_zero (l : List Cm) (i : Nat) (c : Cm) : mxC l i 0 c = 0 := rfl
open Classical in
theorem mxC_yes {l : List Cm} {i k w : Nat} {a c : Cm} (hk : k < i) (ha : l[k]? = some a) (hw : (wavesM (l.take i))[k]? = some w) (h : Way a c) : mxC l i (k + 1) c = max (mxC l i k c) (w + 1) := by
  unfold mxC
  rw [mxP_next (zipW_at hk ha hw), if_pos h]
open Classical in
theorem mxC_no {l : List Cm} {i k : Nat} {a c : Cm} (hi : i ≤ l.length) (hk : k < i) (ha : l[k]? = some a) (h : ¬ Way a c) : mxC l i (k + 1) c = mxC l i k c := by
  unfold mxC
  have hl : (wavesM (l.take i)).length = i := by rw [show (wavesM (l.take i)).length = (l.take i).length from waves_len _ ft0, List.length_take]; omega
  obtain ⟨w, hw⟩ : ∃ w, (wavesM (l.take i))[k]? = some w := ⟨_, List.getElem?_eq_getElem (by omega)⟩
  rw [mxP_next (zipW_at hk ha hw), if_neg h]
open Classical in
theorem mxC_all {l : List Cm} {i : Nat} {c : Cm} (h : l[i]? = some c) : wavesM (l.take (i + 1)) = wavesM (l.take i) ++ [mxC l i i c] := by
  have hi := (List.getElem?_eq_some_iff.1 h).1
  have hz : (zipW l i).take i = zipW l i := List.take_of_length_le (by rw [zipW_len (by omega)]; exact Nat.le_refl _)
  unfold mxC mxP
  rw [hz]
  exact waves_step h
open Classical in
theorem mxC_le {l : List Cm} (hs : ∀ c ∈ l, SmallC c) {i k : Nat} {c : Cm} (hi : i ≤ l.length) (hk : k ≤ i) : mxC l i k c ≤ i := by
  unfold mxC mxP mxR
  refine (mx_foldl _ _ _).2 ⟨Nat.zero_le _, fun p hp _ => ?_⟩
  have h1 := List.mem_of_mem_take hp
  have h2 := (List.of_mem_zip h1).2
  exact waves_lt hs i hi _ h2
set_option maxRecDepth 100000 in
set_option maxHeartbeats 4000000 in
theorem rwaves_any {T : Nat → Prop} {v : Value} {l : List Cm} (w : World) (h : cmK.row w T v l) (hs : Small l) :
    Calls Tryz.prog 26 #[v] w fun e w' => (∃ ao cap, e = .returned (.slice ao l.length cap) ∧ w'.ownsRow w.heap.size TInt 1 (.slice ao l.length cap) l.length ((wavesM l).map nV)) ∧ Upd [] w w' := by
  obtain ⟨i1, hi1, iz0, iz1, iz2⟩ := partsI infoI
  obtain ⟨xo, cp, rfl, h1, h2, hg⟩ := cm_get h
  have HG := hide hg; have HS := hide hs
  have hl100 := hs.1
  simp only [maxLen] at h2
  clear h hg hs
  go_enter Tryz.func26, Tryz.ntmps26
  go_wp2_with fail
  obtain ⟨H, hH⟩ : ∃ H, w.heap.size = H := ⟨_, rfl⟩
  have HH := hide hH
  go_loopw [3, 4] (fun so si wr => ∃ (i : Nat) (ao : Option Addr) (cap : Nat), i ≤ l.length ∧ so = .slice ao i cap ∧ si = .int .i64 i ∧ wr.ownsRow H TInt 1 (.slice ao i cap) i ((wavesM (l.take i)).map nV) ∧ Upd [] w wr) (fun _ si _ => l.length - (RowKit.intOf si).toNat)
  case atStart => exact ⟨0, none, 0, by omega, rfl, rfl, World.ownsRow_nil _ _ _ _, Upd.refl _ _⟩
  case round =>
    obtain ⟨i, ao, cap, hi, rfl, rfl, hown, hu⟩ := hrel
    have OW := hide hown; have HU := hide hu
    have hzr := hu.size
    clear hown hu
    by_cases hlt : i < l.length
    · have d5 : decide ((i : Int) < l.length) = true := by simp; omega
      have d5' : decide (i < l.length) = true := by simpa using hlt
      obtain ⟨c, hc⟩ : ∃ c, l[i]? = some c := ⟨_, List.getElem?_eq_getElem hlt⟩
      obtain ⟨bc, oc, ka, kc, rfl, hbc, -, fit, hks, hcc⟩ := HG.out i c hc
      have hsc := HS.out.2 c (List.mem_of_getElem? hc)
      have hln : (wavesM (l.take i)).length = i := by rw [show (wavesM (l.take i)).length = (l.take i).length from waves_len _ ft0, List.length_take]; omega
      have hlts := waves_lt HS.out.2 i (by omega)
      obtain ⟨ws, hws⟩ : ∃ ws, wavesM (l.take i) = ws := ⟨_, rfl⟩
      have hyes : ∀ (k x : Nat) (a : Cm), k < i → l[k]? = some a → ws[k]? = some x → Way a c → mxC l i (k + 1) c = max (mxC l i k c) (x + 1) := fun k x a hk ha hx hw => mxC_yes hk ha (by rw [hws]; exact hx) hw
      have hno : ∀ (k : Nat) (a : Cm), k < i → l[k]? = some a → ¬ Way a c → mxC l i (k + 1) c = mxC l i k c := fun k a hk ha hw => mxC_no (by omega) hk ha hw
      have hmx0 := mxC_zero l i c
      have hall := mxC_all hc
      have hmle : ∀ k, k ≤ i → mxC l i k c ≤ i := fun k hk => mxC_le HS.out.2 (by omega) hk
      generalize mxC l i = mx at *
      rw [hws] at hall hln hlts OW
      have HC := hide hc; have FIT := hide fit; have KS := hide hks; have SC := hide hsc; have CC := hide hcc
      have HY := hide hyes; have HN := hide hno; have HALL := hide hall; have HM := hide hmle; have HLN := hide hln; have HLT := hide hlts; have HM0 := hide hmx0
      clear hc fit hks hcc hsc hyes hno hall hmle hln hlts hws hmx0
      go_wp2_with fail
      obtain ⟨wo, hwo⟩ : ∃ x, x = wr := ⟨_, rfl⟩
      subst hwo
      go_loopw [5, 6] (fun sw sk wr => ∃ k : Nat, k ≤ i ∧ sw = .int .i64 (mx k c : Int) ∧ sk = .int .i64 k ∧ Upd [] wo wr) (fun _ sk _ => i - (RowKit.intOf sk).toNat)
      case atStart => exact ⟨0, by omega, by rw [HM0.out]; rfl, rfl, Upd.refl _ _⟩
      case round =>
        obtain ⟨k, hk, rfl, rfl, hu2⟩ := hrel
        have HU2 := hide hu2; have UU := hide (HU.out.trans hu2)
        clear hu2
        by_cases hlk : k < i
        · have d6 : decide ((k : Int) < (i : Int)) = true := by simp; omega
          have d6' : decide (k < i) = true := by simpa using hlk
          obtain ⟨a, ha⟩ : ∃ a, l[k]? = some a := ⟨_, List.getElem?_eq_getElem (by omega)⟩
          obtain ⟨bd, od, kd, kdc, e2, hbd, -, fit2, hks2, hcc2⟩ := HG.out k a ha
          cases e2
          have hsa := HS.out.2 a (List.mem_of_getElem? ha)
          obtain ⟨x, hx⟩ : ∃ x, ws[k]? = some x := ⟨_, List.getElem?_eq_getElem (by rw [HLN.out]; exact hlk)⟩
          have hxl := HLT.out x (List.mem_of_getElem? hx)
          have hkl : k < l.length := by omega
          have hml := HM.out k hk
          have HA := hide ha; have FA := hide fit2; have KA := hide hks2; have CA := hide hcc2; have SA := hide hsa; have HX := hide hx
          clear ha fit2 hks2 hcc2 hsa hx
          have CCx := hide (show ∀ wx, Upd [] wr wx → Cells7 wx bc (oc + i * 7) c ka kc from fun wx hS => CC.out.upd (UU.out.trans hS) hbc (by simp))
          have CAx := hide (show ∀ wx, Upd [] wr wx → Cells7 wx bc (oc + k * 7) a kd kdc from fun wx hS => CA.out.upd (UU.out.trans hS) hbd (by simp))
          go_upto_region 9 with fail
          refine wp_region_z (fun wx => Upd [] wr wx) 99 (by kernel_rfl) ?_
          have s0 : Upd [] wr (wr.drewN 1) := (Upd.refl _ _).drewN 1
          refine zE 0 rfl (by kernel_rfl) (fun _ _ _ _ h => h) rfl (by exact s0) ?_
          apply Exists.intro
          refine ⟨fun wx hS => ?_, ?_⟩
          · go_simp; rfl
          simp only [Act.put, List.setIfInBounds_toArray, List.set_cons_succ, List.set_cons_zero, List.getElem_toArray, List.getElem_cons_zero]
          refine zE 1 rfl (by kernel_rfl) (fun _ _ _ _ h => h) rfl (by exact s0) ?_
          apply Exists.intro
          refine ⟨fun wx hS => ?_, ?_⟩
          · go_simp; rfl
          simp only [Act.put, zz1, zz2, zz3, zz4, zz5, zz6]
          refine zE 2 rfl (by kernel_rfl) (fun _ _ _ _ h => h) rfl (by exact s0) ?_
          apply Exists.intro
          refine ⟨fun wx hS => ?_, ?_⟩
          · go_simp; rfl
          simp only [Act.put, zz1, zz2, zz3, zz4, zz5, zz6]
          refine zE 3 rfl (by kernel_rfl) (fun _ _ _ _ h => h) rfl (by exact s0) ?_
          apply Exists.intro
          refine ⟨fun wx hS => ?_, ?_⟩
          · obtain ⟨c0, c1, c2, c3, c4, c5, c6⟩ := CAx.out wx hS; go_simp; rfl
          simp only [Act.put, zz1, zz2, zz3, zz4, zz5, zz6]
          refine zE 4 rfl (by kernel_rfl) (fun _ _ _ _ h => h) rfl (by exact s0) ?_
          apply Exists.intro
          refine ⟨fun wx hS => ?_, ?_⟩
          · go_simp; rfl
          simp only [Act.put, zz1, zz2, zz3, zz4, zz5, zz6]
          refine zE 5 rfl (by kernel_rfl) (fun _ _ _ _ h => h) rfl (by exact s0) ?_
          apply Exists.intro
          refine ⟨fun wx hS => ?_, ?_⟩
          · go_simp; rfl
          simp only [Act.put, zz1, zz2, zz3, zz4, zz5, zz6]
          refine zE 6 rfl (by kernel_rfl) (fun _ _ _ _ h => h) rfl (by exact s0) ?_
          apply Exists.intro
          refine ⟨fun wx hS => ?_, ?_⟩
          · go_simp; rfl
          simp only [Act.put, zz1, zz2, zz3, zz4, zz5, zz6]
          refine zE 7 rfl (by kernel_rfl) (fun _ _ _ _ h => h) rfl (by exact s0) ?_
          apply Exists.intro
          refine ⟨fun wx hS => ?_, ?_⟩
          · obtain ⟨c0, c1, c2, c3, c4, c5, c6⟩ := CCx.out wx hS; go_simp; rfl
          simp only [Act.put, zz1, zz2, zz3, zz4, zz5, zz6]
          refine wpAnyZ_one 8 (by kernel_rfl) rfl rfl (fun K hK => ?_)
          try simp only [List.getElem_toArray, List.getElem_cons_succ, List.getElem_cons_zero]
          go_simp
          have hw := rway_any (a := a) (b := c) (T := T) (U := T) (va := cmv a (.slice kd a.keys.length kdc)) (vb := cmv c (.slice ka c.keys.length kc)) (wr.drewN 1) ⟨FA.out, _, rfl, KA.out.upd_nil (UU.out.trans s0)⟩ ⟨FIT.out, _, rfl, KS.out.upd_nil (UU.out.trans s0)⟩ (by have := SA.out.2.2.1; omega) (by have := SC.out.2.2.1; omega)
          simp only [cmv, strV] at hw
          refine hw.mono ?_
          rintro e w3 ⟨⟨r, rfl, hr⟩, hu3⟩
          have s1 := s0.trans hu3
          have HR := hide hr
          refine hK _ _ (.inr s1) ?_
          clear hK K
          try simp only [Act.put, zz1, zz2, zz3]
          refine wpAnyZ_done (by kernel_rfl) ?_ _
          have U3 := hide (HU2.out.trans s1)
          clear hw hr hu3 s0 s1 CCx CAx
          cases r with
          | true =>
            have hmx := HY.out k x a hlk HA.out HX.out (HR.out.1 rfl)
            have hme : max ((mx k c : Nat) : Int) ((x : Int) + 1) = ((mx (k + 1) c : Nat) : Int) := by rw [hmx]; omega
            obtain ⟨ad, rfl, hcx⟩ := (IntsAt.own (owns_upd OW.out U3.out (by simp))).get HX.out
            have HME := hide hme
            clear hmx hme
            go_wp2_with fail
            go_roundw
            case rel => exact ⟨k + 1, by omega, by rw [HME.out], by go_num, U3.out⟩
            case measure => simp [RowKit.intOf]; omega
          | false =>
            have hmx := HN.out k a hlk HA.out (fun h => by have := HR.out.2 h; cases this)
            have HMX := hide hmx
            clear hmx
            go_wp2_with fail
            go_roundw
            case rel => exact ⟨k + 1, by omega, by rw [HMX.out], by go_num, U3.out⟩
            case measure => simp [RowKit.intOf]; omega
        · have d6 : decide ((k : Int) < (i : Int)) = false := by simp; omega
          have d6' : decide (k < i) = false := by simpa using hlk
          have hki : k = i := by omega
          subst hki
          obtain ⟨x, hx⟩ : ∃ x, mx k c = x := ⟨_, rfl⟩
          have hal := HALL.out
          have hxk := HM.out k (Nat.le_refl _)
          rw [hx] at hal hxk ⊢
          obtain ⟨cur, hcur⟩ : ∃ cur, ws.map nV = cur := ⟨_, rfl⟩
          have OW2 := hide (owns_upd OW.out HU2.out (by simp))
          rw [hcur] at OW2
          have HAL := hide hal; have HCU := hide hcur
          have hz2 := UU.out.size; have hh := HH.out
          clear hlk hal hx hcur HY HN HALL HM HLN HLT HM0 CC KS SC FIT HC
          go_wp2_with (at_builtin; go_must (refine wpList_append_src _ rfl _ _ 59 rfl H 3 i1 (.int .i64 0) 1 8 Tryz.underlying59 hi1 iz0 iz1 iz2 rfl (by decide) (.slice ao k cap) k cur rfl (by exact owns_upd OW2.out ((Upd.refl [] wr).alloc _) (by simp)) (some ⟨wr.heap.size, 0, none⟩) 1 1 [nV x] rfl (src_one (cell_new1 rfl) rfl) (by unfold maxLen; omega) (by omega) (by simp; omega) ?_))
          intro ao7 cap7 w7 hown7 hU7 hn7
          have hU7' := grown_upd hU7
          have U7 := hide (UU.out.trans_new hU7' (fun q hq => .inr (by have := (owns_lt OW2.out q (by simpa using hq)).1; omega)))
          have OW7 := hide hown7
          clear hown7 hU7 hU7' hn7
          go_wp2_with fail
          go_roundw
          case rel => exact ⟨k + 1, ao7, cap7, by omega, rfl, by go_num, by rw [HAL.out, List.map_append, HCU.out]; exact OW7.out, U7.out⟩
          case measure => simp [RowKit.intOf]; omega
    · have d5 : decide ((i : Int) < l.length) = false := by simp; omega
      have d5' : decide (i < l.length) = false := by simpa using hlt
      have hie : i = l.length := by omega
      subst hie
      go_wp2_with fail
      go_ret
      have h8 := OW.out
      rw [List.take_length] at h8
      rw [← HH.out] at h8
      exact ⟨⟨ao, cap, rfl, h8⟩, HU.out⟩
end Go.Proofs.YthpnnffogbjhpaaGreatDoor.Kv
