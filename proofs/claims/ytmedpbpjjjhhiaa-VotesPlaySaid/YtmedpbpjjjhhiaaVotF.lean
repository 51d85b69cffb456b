/- The document's tally in memory: New, Add, Has, Chosen, Upto. -/
import Derived.Test.YtmedpbpjjjhhiaaVotOr
namespace Go.Proofs.Ytmedpbpjjjhhiaa.Vot
open Go.RowKit

abbrev TRef : TypeId := 38
abbrev TRow : TypeId := 46
abbrev TB : TypeId := 4
/-- The document's tally: its struct in block R, its rows in block D, row r in block b r. -/
structure RefIn (w : World) (B R D cap n floor : Nat) (b : Nat → Nat) (st : Nat → Nat → Bool) : Prop where
  hR : w.heap[R]? = some (.cells #[.slice (some ⟨D, 0, none⟩) n cap, .int .i64 (floor : Int)] TRef (0, 0))
  hD : ∃ cs, w.heap[D]? = some (.cells cs TRow (0, 0)) ∧ ∀ r, r < n → cs[r]? = some (.slice (some ⟨b r, 0, none⟩) 202 202)
  row : ∀ r, r < n → ∃ bs, w.heap[b r]? = some (.cells bs TB (0, 0)) ∧ ∀ i, i < 202 → bs[i]? = some (.bool (st r i))
  inj : ∀ r s, r < n → s < n → b r = b s → r = s
  loR : B ≤ R
  loD : B ≤ D
  lob : ∀ r, r < n → B ≤ b r
  nc : n ≤ cap
  cm : cap ≤ maxLen
  n7 : n ≤ 7
  fl : floor ≤ 200
def RefAt (w : World) (B R n floor : Nat) (st : Nat → Nat → Bool) : Prop := ∃ D cap b, RefIn w B R D cap n floor b st
namespace RefIn
variable {w w' : World} {B R D cap n floor : Nat} {b : Nat → Nat} {st : Nat → Nat → Bool}
theorem quiet (h : RefIn w B R D cap n floor b st) (hu : Upd [] w w') : RefIn w' B R D cap n floor b st := by
  obtain ⟨cs, h1, h2⟩ := h.hD
  refine ⟨hu.get h.hR (by simp), ⟨cs, hu.get h1 (by simp), h2⟩, fun r hr => ?_, h.inj, h.loR, h.loD, h.lob, h.nc, h.cm, h.n7, h.fl⟩
  obtain ⟨bs, h3, h4⟩ := h.row r hr
  exact ⟨bs, hu.get h3 (by simp), h4⟩
/-- Acts on a tally of the program leave it. -/
theorem beside {T C n' floor' K : Nat} {l : Nat → List Sp} (h : RefIn w B R D cap n floor b st) (ht : TalAt w B T C n' floor' K l) {S : List Nat} (hS : ∀ k, k ∈ S → k = T ∨ k = C) (hu : Upd S w w') : RefIn w' B R D cap n floor b st := by
  obtain ⟨cs', g1, -⟩ := ht.hC
  have ne : ∀ (k : Nat) (cs : Array Value) (t : TypeId), w.heap[k]? = some (.cells cs t (0, 0)) → t ≠ TTal → t ≠ TSet → k ∉ S := by
    intro k cs t hk h1 h2 hm
    rcases hS k hm with rfl | rfl
    · rw [ht.hT] at hk
      injection hk with hk
      injection hk with h3 h4
      exact h1 h4.symm
    · rw [g1] at hk
      injection hk with hk
      injection hk with h3 h4
      exact h2 h4.symm
  obtain ⟨cs, h1, h2⟩ := h.hD
  refine ⟨hu.get h.hR (ne _ _ _ h.hR (by decide) (by decide)), ⟨cs, hu.get h1 (ne _ _ _ h1 (by decide) (by decide)), h2⟩, fun r hr => ?_, h.inj, h.loR, h.loD, h.lob, h.nc, h.cm, h.n7, h.fl⟩
  obtain ⟨bs, h3, h4⟩ := h.row r hr
  exact ⟨bs, hu.get h3 (ne _ _ _ h3 (by decide) (by decide)), h4⟩
end RefIn
/-- The loop of the document's Add, from i on. -/
def setTo (st : Nat → Nat → Bool) (r lo hi : Nat) : Nat → Nat → Bool := fun s i => st s i || (decide (s = r) && decide (lo ≤ i) && decide (i < hi))
theorem setTo_none (st : Nat → Nat → Bool) (r lo : Nat) : setTo st r lo lo = st := by
  funext s i
  unfold setTo
  have : (decide (lo ≤ i) && decide (i < lo)) = false := by simp <;> omega
  rw [Bool.and_assoc, this]
  simp
set_option maxHeartbeats 1000000 in
theorem radd_any {B R D cap n floor r from_ to_ : Nat} {b : Nat → Nat} {st : Nat → Nat → Bool} (w : World) (h : RefIn w B R D cap n floor b st) (hr : r < n) (hft : from_ ≤ to_) (hto : to_ < 200) :
    Calls Try.prog 11 #[.pointer (some ⟨R, 0, none⟩), .int .i64 (r : Int), .int .i64 (from_ : Int), .int .i64 (to_ : Int)] w fun e w' => e = .returned (.tuple #[]) ∧ RefIn w' B R D cap n floor b (setTo st r from_ (to_ + 1)) ∧ Upd [b r] w w' := by
  have HH := hide h
  have hcm := h.cm
  have hnc := h.nc
  simp only [maxLen] at hcm
  clear h
  go_enter Try.func11, Try.ntmps11
  go_wp2_with fail
  go_loopw [8] (fun si wr => ∃ i : Nat, from_ ≤ i ∧ i ≤ to_ + 1 ∧ si = .int .i64 i ∧ RefIn wr B R D cap n floor b (setTo st r from_ i) ∧ Upd [b r] w wr) (fun si _ => to_ + 1 - (intOf si).toNat)
  case atStart => exact ⟨from_, Nat.le_refl _, by omega, rfl, by rw [setTo_none]; exact HH.out, Upd.refl _ _⟩
  case round =>
    obtain ⟨i, hi1, hi2, rfl, hrf, hu⟩ := hrel
    have HR := hide hrf; have HU := hide hu
    clear hrf hu
    by_cases hlt : i ≤ to_
    · have d1 : decide ((i : Int) ≤ (to_ : Int)) = true := by simp; omega
      have d1' : decide (i ≤ to_) = true := by simpa using hlt
      obtain ⟨cs, hD, hcs⟩ := HR.out.hD
      obtain ⟨bs, hb, hbs⟩ := HR.out.row r hr
      have hc0 : wr.cell? ⟨R, 0, none⟩ = some (.slice (some ⟨D, 0, none⟩) n cap) := blk_cell HR.out.hR rfl
      have hc1 : wr.cell? ⟨D, r, none⟩ = some (.slice (some ⟨b r, 0, none⟩) 202 202) := blk_cell hD (hcs r hr)
      have hc2 : wr.cell? ⟨b r, i, none⟩ = some (.bool (setTo st r from_ i r i)) := blk_cell hb (hbs i (by omega))
      have hf2 := blk_free hb (i := i)
      have hi3 : i < 202 := by omega
      have R2 : RefIn (wr.setCell ⟨b r, i, none⟩ (.bool true)) B R D cap n floor b (setTo st r from_ (i + 1)) := by
        have neR : R ≠ b r := by
          rintro e; rw [← e, HR.out.hR] at hb; injection hb with hb; injection hb with h1 h2; exact absurd h2 (by decide)
        have neD : D ≠ b r := by
          rintro e; rw [← e, hD] at hb; injection hb with hb; injection hb with h1 h2; exact absurd h2 (by decide)
        refine ⟨blk_set_other HR.out.hR neR _, ⟨cs, blk_set_other hD neD _, hcs⟩, fun s hs => ?_, HR.out.inj, HR.out.loR, HR.out.loD, HR.out.lob, HR.out.nc, HR.out.cm, HR.out.n7, HR.out.fl⟩
        by_cases e : s = r
        · subst e
          refine ⟨_, blk_set hb _, fun j hj => ?_⟩
          rw [Array.getElem?_setIfInBounds]
          have hsz : i < bs.size := by
            have := hbs i hi3
            exact (Array.getElem?_eq_some_iff.1 this).1
          by_cases e2 : i = j
          · subst e2
            rw [if_pos rfl, if_pos hsz]
            simp [setTo]
            omega
          · rw [if_neg e2, hbs j hj]
            unfold setTo
            have : decide (j < i) = decide (j < i + 1) := by
              by_cases h5 : j < i
              · simp [h5]; omega
              · simp [h5]; omega
            rw [this]
        · obtain ⟨bs', h3, h4⟩ := HR.out.row s hs
          refine ⟨bs', blk_set_other h3 (fun h => e (HR.out.inj s r hs hr h)) _, fun j hj => ?_⟩
          rw [h4 j hj]
          unfold setTo
          simp [e]
      have HR2 := hide R2
      clear hD hcs hb hbs R2
      go_wp2_with fail
      go_roundw
      case rel => exact ⟨i + 1, by omega, by omega, by go_num, HR2.out, HU.out.setCell (.inl (by simp)) _⟩
      case measure => simp [intOf] <;> omega
    · have d1 : decide ((i : Int) ≤ (to_ : Int)) = false := by simp; omega
      have d1' : decide (i ≤ to_) = false := by simpa using hlt
      have e1 : i = to_ + 1 := by omega
      subst e1
      go_wp2_with fail
      go_end0
      exact ⟨rfl, HR.out, HU.out⟩
/-- Has a replica a slot, by the document? -/
def rhasB (floor : Nat) (st : Nat → Nat → Bool) (r s : Nat) : Bool := decide (s ≤ floor) || st r s
set_option maxHeartbeats 1000000 in
theorem rhas_any {B R D cap n floor r s : Nat} {b : Nat → Nat} {st : Nat → Nat → Bool} (w : World) (h : RefIn w B R D cap n floor b st) (hr : r < n) (hs : s < 202) :
    Calls Try.prog 24 #[.pointer (some ⟨R, 0, none⟩), .int .i64 (r : Int), .int .i64 (s : Int)] w fun e w' => e = .returned (.bool (rhasB floor st r s)) ∧ w = w' := by
  have hcm := h.cm
  have hnc := h.nc
  simp only [maxLen] at hcm
  obtain ⟨cs, hD, hcs⟩ := h.hD
  obtain ⟨bs, hb, hbs⟩ := h.row r hr
  have hc0 : w.cell? ⟨R, 0, none⟩ = some (.slice (some ⟨D, 0, none⟩) n cap) := blk_cell h.hR rfl
  have hcf : w.cell? ⟨R, 1, none⟩ = some (.int .i64 (floor : Int)) := blk_cell h.hR rfl
  have hc1 : w.cell? ⟨D, r, none⟩ = some (.slice (some ⟨b r, 0, none⟩) 202 202) := blk_cell hD (hcs r hr)
  have hc2 : w.cell? ⟨b r, s, none⟩ = some (.bool (st r s)) := blk_cell hb (hbs s hs)
  clear h hD hcs hb hbs
  by_cases hf : s ≤ floor
  · have d1 : decide ((s : Int) ≤ (floor : Int)) = true := by simp; omega
    go_enter Try.func24, Try.ntmps24
    go_wp2_with fail
    go_ret
    exact ⟨by simp [rhasB, hf], rfl⟩
  · have d1 : decide ((s : Int) ≤ (floor : Int)) = false := by simp; omega
    go_enter Try.func24, Try.ntmps24
    go_wp2_with fail
    go_ret
    exact ⟨by simp [rhasB, hf], rfl⟩
def rchosenB (n floor : Nat) (st : Nat → Nat → Bool) (s : Nat) : Bool := decide (n < 2 * cnt (fun r => rhasB floor st r s) n)
set_option maxHeartbeats 1000000 in
theorem rchosen_any {B R D cap n floor s : Nat} {b : Nat → Nat} {st : Nat → Nat → Bool} (w : World) (h : RefIn w B R D cap n floor b st) (hs : s < 202) :
    Calls Try.prog 23 #[.pointer (some ⟨R, 0, none⟩), .int .i64 (s : Int)] w fun e w' => e = .returned (.bool (rchosenB n floor st s)) ∧ w = w' := by
  have h7 := h.n7
  have hc0 : w.cell? ⟨R, 0, none⟩ = some (.slice (some ⟨D, 0, none⟩) n cap) := blk_cell h.hR rfl
  have H := hide h
  clear h
  go_enter Try.func23, Try.ntmps23
  go_wp2_with fail
  go_loopw [5, 6] (fun sn si wr => ∃ k : Nat, k ≤ n ∧ si = .int .i64 k ∧ sn = .int .i64 (cnt (fun r => rhasB floor st r s) k : Nat) ∧ w = wr) (fun _ si _ => n - (intOf si).toNat)
  case atStart => exact ⟨0, by omega, rfl, rfl, rfl⟩
  case round =>
    obtain ⟨k, hk, rfl, rfl, rfl⟩ := hrel
    have hcl := cnt_le (fun r => rhasB floor st r s) k
    by_cases hlt : k < n
    · have d5 : decide ((k : Int) < (n : Int)) = true := by simp; omega
      have d5' : decide (k < n) = true := by simpa using hlt
      go_wp2_with fail
      refine (rhas_any (s := s) _ H.out hlt hs).mono ?_
      rintro e w2 ⟨rfl, rfl⟩
      cases hb : rhasB floor st k s with
      | true =>
        have w1 : IntKind.i64.wrap ((cnt (fun r => rhasB floor st r s) k : Int) + 1) = ((cnt (fun r => rhasB floor st r s) (k + 1) : Nat) : Int) := by
          rw [IntWalk.i64_in _ (by omega)]; simp only [cnt, hb, if_true]; omega
        clear hb
        go_wp2_with fail
        go_roundw
        case rel => exact ⟨k + 1, by omega, by go_num, by go_num, trivial⟩
        case measure => simp [intOf] <;> omega
      | false =>
        have e1 : cnt (fun r => rhasB floor st r s) (k + 1) = cnt (fun r => rhasB floor st r s) k := by simp [cnt, hb]
        have E1 := hide e1
        clear hb e1
        go_wp2_with fail
        go_roundw
        case rel => exact ⟨k + 1, by omega, by go_num, by rw [E1.out], trivial⟩
        case measure => simp [intOf] <;> omega
    · have d5 : decide ((k : Int) < (n : Int)) = false := by simp; omega
      have d5' : decide (k < n) = false := by simpa using hlt
      have e1 : k = n := by omega
      subst e1
      obtain ⟨c2, hc2⟩ : ∃ c2, c2 = 2 * cnt (fun r => rhasB floor st r s) k := ⟨_, rfl⟩
      have w1 : IntKind.i64.wrap (2 * (cnt (fun r => rhasB floor st r s) k : Int)) = (c2 : Int) := by rw [IntWalk.i64_in _ (by omega)]; omega
      have HC2 := hide hc2
      clear hc2
      go_wp2_with fail
      go_ret
      refine ⟨?_, rfl⟩
      unfold rchosenB
      rw [← HC2.out]
      simp
/-- Where the document's Upto comes to. -/
def RUptoIs (n floor : Nat) (st : Nat → Nat → Bool) (s u : Nat) : Prop := s ≤ u ∧ u ≤ 200 ∧ (∀ k, s < k → k ≤ u → rchosenB n floor st k = true) ∧ (u < 200 → rchosenB n floor st (u + 1) = false)
set_option maxHeartbeats 1000000 in
theorem rupto_any {B R D cap n floor s : Nat} {b : Nat → Nat} {st : Nat → Nat → Bool} (w : World) (h : RefIn w B R D cap n floor b st) (hs : s ≤ 200) :
    Calls Try.prog 25 #[.pointer (some ⟨R, 0, none⟩), .int .i64 (s : Int)] w fun e w' => ∃ u : Nat, e = .returned (.int .i64 (u : Int)) ∧ RUptoIs n floor st s u ∧ w = w' := by
  have H := hide h
  clear h
  go_enter Try.func25, Try.ntmps25
  go_wp2_with fail
  go_loopw [1] (fun ss wr => ∃ u : Nat, ss = .int .i64 u ∧ s ≤ u ∧ u ≤ 200 ∧ (∀ k, s < k → k ≤ u → rchosenB n floor st k = true) ∧ w = wr) (fun ss _ => 200 - (intOf ss).toNat)
  case atStart => exact ⟨s, rfl, Nat.le_refl _, hs, fun k h1 h2 => by omega, rfl⟩
  case round =>
    obtain ⟨u, rfl, h1, h2, h3, rfl⟩ := hrel
    have H3 := hide h3
    clear h3
    by_cases hlt : u < 200
    · have d1 : decide ((u : Int) < 200) = true := by simp; omega
      have d1' : decide (u < 200) = true := by simpa using hlt
      have w1 : IntKind.i64.wrap ((u : Int) + 1) = ((u + 1 : Nat) : Int) := by rw [IntWalk.i64_in _ (by omega)]; omega
      go_wp2_with fail
      refine (rchosen_any (s := u + 1) _ H.out (by omega)).mono ?_
      rintro e w2 ⟨rfl, rfl⟩
      cases hb : rchosenB n floor st (u + 1) with
      | true =>
        have HB := hide hb
        clear hb
        go_wp2_with fail
        go_roundw
        case rel =>
          refine ⟨u + 1, by go_num, by omega, by omega, fun k h4 h5 => ?_, trivial⟩
          by_cases e : k = u + 1
          · rw [e]; exact HB.out
          · exact H3.out k h4 (by omega)
        case measure => simp [intOf] <;> omega
      | false =>
        have HB := hide hb
        clear hb
        go_wp2_with fail
        go_ret
        exact ⟨u, rfl, ⟨h1, h2, H3.out, fun _ => HB.out⟩, rfl⟩
    · have d1 : decide ((u : Int) < 200) = false := by simp; omega
      have d1' : decide (u < 200) = false := by simpa using hlt
      go_wp2_with fail
      go_ret
      exact ⟨u, rfl, ⟨h1, h2, H3.out, fun h => absurd h hlt⟩, rfl⟩
end Go.Proofs.Ytmedpbpjjjhhiaa.Vot
