/- CmC, CmK in one text. -/
import Derived.Test.YthpnnffogbjhpaaGreatDoorCmM
set_option linter.unusedSimpArgs false
set_option linter.unusedVariables false
set_option linter.unnecessarySimpa false
namespace Go.Proofs.YthpnnffogbjhpaaGreatDoor.Cm
set_option linter.unusedSimpArgs false
set_option linter.unusedVariables false
open Go.RowKit Go.Proofs.YthpnnffogbjhpaaGreatDoor.Crc

def KeyOk (k : List UInt8) : Prop := k ≠ [] ∧ k.length ≤ 32
instance (k : List UInt8) : Decidable (KeyOk k) := by unfold KeyOk; infer_instance
theorem str_empty (k : List UInt8) : (strOf k).toList.isEmpty = decide (k = []) := by
  have h : (strOf k).toList = k := by
    simp [strOf]
  rw [h]
  cases k <;> simp
set_option maxHeartbeats 1000000 in
theorem long_any (w : World) (k : List UInt8) (hk : k.length ≤ 4611686018427387904) :
    Calls Tryz.prog 79 #[.string (strOf k)] w fun e w' => e = .returned (.bool (!decide (KeyOk k))) ∧ w = w' := by
  have hs := strOf_size k
  have q := str_empty k
  by_cases h : k = []
  · have q1 : (strOf k).toList.isEmpty = true := by rw [q]; simpa using h
    have H := hide h
    clear q h
    go_enter Tryz.func79, Tryz.ntmps79
    go_wp2_with fail
    go_ret
    have h := H.out
    exact ⟨by simp [KeyOk, h], rfl⟩
  · have q1 : (strOf k).toList.isEmpty = false := by rw [q]; simpa using h
    have H := hide h
    clear q h
    go_enter Tryz.func79, Tryz.ntmps79
    go_wp2_with fail
    go_ret
    have h := H.out
    have h2 : decide ((32 : Int) < (k.length : Int)) = decide (32 < k.length) := by simp; omega
    refine ⟨?_, rfl⟩
    simp only [go_sem]
    show Ending.returned (Value.bool (decide ((32 : Int) < (k.length : Int)))) = _
    rw [h2]
    unfold KeyOk
    by_cases h4 : 32 < k.length <;> simp [h, h4] <;> omega
set_option maxHeartbeats 1000000 in
theorem findk_any {T : Nat → Prop} {v : Value} {l : List (List UInt8)} (w : World) (hs : Strs w T v l) (hl : ∀ k ∈ l, k.length ≤ 4611686018427387904) :
    Calls Tryz.prog 101 #[v, .func (.func 79) #[] #[]] w fun e w' => Upd [] w w' ∧ ∃ r : Int, e = .returned (.int .i64 r) ∧ ((r = -1 ∧ ∀ k ∈ l, KeyOk k) ∨ (0 ≤ r ∧ ∃ k ∈ l, ¬ KeyOk k)) := by
  obtain ⟨xo, c, rfl, h2, h3, hg⟩ := hs.get
  have HG := hide hg; have HL := hide hl
  simp only [maxLen] at h3
  clear hs hg hl
  go_enter Tryz.func101, Tryz.ntmps101
  go_wp2_with fail
  go_loopw [8] (fun si wr => ∃ k : Nat, k ≤ l.length ∧ si = .int .i64 k ∧ Upd [] w wr ∧ ∀ q ∈ l.take k, KeyOk q) (fun si _ => l.length - (intOf si).toNat)
  case atStart => exact ⟨0, by omega, rfl, Upd.refl _ _, by simp⟩
  case round =>
    obtain ⟨k, hk, rfl, hu, hall⟩ := hrel
    have HU := hide hu; have HA := hide hall
    clear hu hall
    by_cases hlt : k < l.length
    · have d5 : decide ((k : Int) < l.length) = true := by simp; omega
      have d5' : decide (k < l.length) = true := by simpa using hlt
      obtain ⟨p, hp⟩ : ∃ p, l[k]? = some p := ⟨_, List.getElem?_eq_getElem hlt⟩
      obtain ⟨b, off, rfl, hb, hc⟩ := HG.out k p hp
      have hc' : wr.cell? ⟨b, off + k, none⟩ = some (.string (strOf p)) := by
        rw [← hc]; have := HU.out.block b hb (by simp); simp only [World.cell?, this]
      have hpl := HL.out p (List.mem_of_getElem? hp)
      have HP := hide hp
      clear hc hp
      go_wp2_with fail
      refine (long_any _ p hpl).mono ?_
      rintro e w2 ⟨rfl, rfl⟩
      by_cases hok : KeyOk p
      · have q : (!decide (KeyOk p)) = false := by simpa using hok
        have OK := hide hok
        clear hok
        simp only [q]
        go_wp2_with fail
        go_roundw
        case rel =>
          refine ⟨k + 1, by omega, by go_num, HU.out, fun q' hq => ?_⟩
          rw [List.take_add_one, HP.out] at hq
          rcases List.mem_append.1 hq with h5 | h5
          · exact HA.out q' h5
          · simp at h5; rw [h5]; exact OK.out
        case measure => simp [intOf] <;> omega
      · have q : (!decide (KeyOk p)) = true := by simpa using hok
        have OK := hide hok
        clear hok
        simp only [q]
        go_wp2_with fail
        go_ret
        exact ⟨HU.out, _, rfl, .inr ⟨by omega, p, List.mem_of_getElem? HP.out, OK.out⟩⟩
    · have d5 : decide ((k : Int) < l.length) = false := by simp; omega
      have d5' : decide (k < l.length) = false := by simpa using hlt
      have hall : ∀ q ∈ l, KeyOk q := by have := HA.out; rwa [List.take_of_length_le (by omega)] at this
      have HB := hide hall
      clear hall
      go_wp2_with fail
      go_ret
      exact ⟨HU.out, _, rfl, .inl ⟨rfl, HB.out⟩⟩
set_option maxHeartbeats 1000000 in
theorem anyk_any {T : Nat → Prop} {v : Value} {l : List (List UInt8)} (w : World) (hs : Strs w T v l) (hl : ∀ k ∈ l, k.length ≤ 4611686018427387904) :
    Calls Tryz.prog 80 #[v, .func (.func 79) #[] #[]] w fun e w' => Upd [] w w' ∧ e = .returned (.bool (!decide (∀ k ∈ l, KeyOk k))) := by
  have HS := hide hs
  obtain ⟨xo, c, rfl, -, -, -⟩ := hs.get
  clear hs
  go_enter Tryz.func80, Tryz.ntmps80
  go_wp2_with fail
  refine (findk_any _ HS.out hl).mono ?_
  rintro e w' ⟨hu, r, rfl, h⟩
  have HU := hide hu
  clear hu
  rcases h with ⟨rfl, h⟩ | ⟨h0, h⟩
  · have HH := hide h
    clear h
    go_wp2_with fail
    go_ret
    have : decide (∀ k ∈ l, KeyOk k) = true := by simpa using HH.out
    exact ⟨HU.out, by simp [this]⟩
  · have HH := hide h
    have d : decide ((0 : Int) ≤ r) = true := by simpa using h0
    clear h
    go_wp2_with fail
    go_ret
    have : decide (∀ k ∈ l, KeyOk k) = false := by
      have := HH.out
      simp only [decide_eq_false_iff_not]
      rintro h9
      obtain ⟨k, hk, hn⟩ := this
      exact hn (h9 k hk)
    exact ⟨HU.out, by simp [this]⟩
end Go.Proofs.YthpnnffogbjhpaaGreatDoor.Cm
namespace Go.Proofs.YthpnnffogbjhpaaGreatDoor.Cm
set_option linter.unusedSimpArgs false
set_option linter.unusedVariables false
open Go.RowKit Go.Proofs.YthpnnffogbjhpaaGreatDoor.Crc

set_option maxRecDepth 100000 in
set_option maxHeartbeats 4000000 in
theorem check_any {T : Nat → Prop} {v : Value} {c : Cm} (w : World) (hcnt : CntAt w) (h : CmAt w T v c) :
    Calls Tryz.prog 50 #[v] w fun e w' => Upd [] w w' ∧ e = .returned (.int .i64 (checkM c)) := by
  obtain ⟨client, seq, kind, keys, old, new, n⟩ := c
  obtain ⟨⟨f1, f2, f3, f4, f5, f6, f7, f8, f9⟩, ks, rfl, hks⟩ := h
  simp only at f1 f2 f3 f4 f5 f6 f7 f8 f9 hks
  have HS := hide hks; have HC := hide hcnt; have F9 := hide f9
  obtain ⟨xo, cp, rfl, -, -, -⟩ := hks.get
  clear hks hcnt f9
  unfold cmv
  simp only [strV]
  have so := strOf_size old
  have sn := strOf_size new
  have eo := str_empty old
  have en := str_empty new
  have EO := hide eo; have EN := hide en
  clear eo en
  go_enter Tryz.func50, Tryz.ntmps50
  by_cases hA : client = 0
  · have q1 : ((client : Int) == 0) = true := by simpa using hA
    have H := hide hA
    clear hA
    go_wp2_with fail
    go_ret
    exact ⟨(Upd.refl _ _).alloc _, checkM_bad (fun h => h.1 H.out)⟩
  have q1 : ((client : Int) == 0) = false := by simpa using hA
  have HA := hide hA
  clear hA
  by_cases hB : kind = 0
  · have q2 : ((kind : Int) == 0) = true := by simpa using hB
    have H := hide hB
    clear hB
    go_wp2_with fail
    go_ret
    exact ⟨(Upd.refl _ _).alloc _, checkM_bad (fun h => h.2.1 H.out)⟩
  have q2 : ((kind : Int) == 0) = false := by simpa using hB
  have HB := hide hB
  clear hB
  by_cases hD : 9 ≤ kind
  · have q3 : decide (9 ≤ (kind : Int)) = true := by simp; omega
    have H := hide hD
    clear hD
    go_wp2_with fail
    go_ret
    exact ⟨(Upd.refl _ _).alloc _, checkM_bad (fun h => by have := h.2.2.1; have := H.out; simp only at *; omega)⟩
  have q3 : decide (9 ≤ (kind : Int)) = false := by simp; omega
  have hk9 : kind < 9 := by omega
  clear hD
  have hg := HC.out.lt
  have hc0 : ∀ o, (w.alloc o).cell? ⟨0, kind * 2, none⟩ = some (.int .i64 ((lo kind : Nat) : Int)) := fun o => by
    rw [← (HC.out kind hk9).1]; simp only [World.cell?, Below.heap_alloc _ _ _ hg]
  have hc1 : ∀ o, (w.alloc o).cell? ⟨0, kind * 2 + 1, none⟩ = some (.int .i64 ((hi kind : Nat) : Int)) := fun o => by
    rw [← (HC.out kind hk9).2]; simp only [World.cell?, Below.heap_alloc _ _ _ hg]
  obtain ⟨L, hL⟩ : ∃ L, lo kind = L := ⟨_, rfl⟩
  obtain ⟨U, hU⟩ : ∃ U, hi kind = U := ⟨_, rfl⟩
  rw [hL] at hc0
  rw [hU] at hc1
  have HL := hide hL; have HU := hide hU
  clear hL hU
  obtain ⟨b5, hb5⟩ : ∃ b, ((kind : Int) == 5) = b := ⟨_, rfl⟩
  obtain ⟨b4, hb4⟩ : ∃ b, ((kind : Int) == 4) = b := ⟨_, rfl⟩
  go_wp2_with fail
  have hX := blk_alloc (blk_new w (.cells #[Value.int IntKind.u32 (client : Int), .int .u32 (seq : Int), .int .u8 (kind : Int), .slice xo keys.length cp, .string (strOf old), .string (strOf new), .int .i64 n] TCmd)) (.cells #[Value.int IntKind.i64 (L : Int), .int .i64 (U : Int)] 152)
  have hY := blk_new (w.alloc (.cells #[Value.int IntKind.u32 (client : Int), .int .u32 (seq : Int), .int .u8 (kind : Int), .slice xo keys.length cp, .string (strOf old), .string (strOf new), .int .i64 n] TCmd)) (.cells #[Value.int IntKind.i64 (L : Int), .int .i64 (U : Int)] 152)
  have hUp := ((Upd.refl [] w).alloc (.cells #[Value.int IntKind.u32 (client : Int), .int .u32 (seq : Int), .int .u8 (kind : Int), .slice xo keys.length cp, .string (strOf old), .string (strOf new), .int .i64 n] TCmd)).alloc (.cells #[Value.int IntKind.i64 (L : Int), .int .i64 (U : Int)] 152)
  rw [World.size_alloc] at hY
  generalize (w.alloc (.cells #[Value.int IntKind.u32 (client : Int), .int .u32 (seq : Int), .int .u8 (kind : Int), .slice xo keys.length cp, .string (strOf old), .string (strOf new), .int .i64 n] TCmd)).alloc (.cells #[Value.int IntKind.i64 (L : Int), .int .i64 (U : Int)] 152) = W at *
  generalize w.heap.size = B at *
  have x0 : W.cell? ⟨B, 0, none⟩ = some (.int .u32 (client : Int)) := blk_cell hX rfl
  have x2 : W.cell? ⟨B, 2, none⟩ = some (.int .u8 (kind : Int)) := blk_cell hX rfl
  have x3 : W.cell? ⟨B, 3, none⟩ = some (.slice xo keys.length cp) := blk_cell hX rfl
  have x4 : W.cell? ⟨B, 4, none⟩ = some (.string (strOf old)) := blk_cell hX rfl
  have x5 : W.cell? ⟨B, 5, none⟩ = some (.string (strOf new)) := blk_cell hX rfl
  have x6 : W.cell? ⟨B, 6, none⟩ = some (.int .i64 n) := blk_cell hX rfl
  have y0 : W.cell? ⟨B + 1, 0, none⟩ = some (.int .i64 (L : Int)) := blk_cell hY rfl
  have y1 : W.cell? ⟨B + 1, 1, none⟩ = some (.int .i64 (U : Int)) := blk_cell hY rfl
  have UP := hide hUp; have HX := hide hX
  clear hX hY hUp hc0 hc1
  go_quiet (fail)
  by_cases hE : keys.length < L
  · have d1 : decide ((keys.length : Int) < (L : Int)) = true := by simp; omega
    have d1' : decide (keys.length < L) = true := by simp; omega
    have H := hide hE
    clear hE
    go_wp2_with fail
    go_ret
    exact ⟨UP.out.drewN _, checkM_bad (fun h => by have := h.2.2.2.1; have := H.out; have := HL.out; simp only at *; omega)⟩
  have d1 : decide ((keys.length : Int) < (L : Int)) = false := by simp; omega
  have d1' : decide (keys.length < L) = false := by simp; omega
  clear hE
  by_cases hF : U < keys.length
  · have d2 : decide ((U : Int) < (keys.length : Int)) = true := by simp; omega
    have d2' : decide (U < keys.length) = true := by simp; omega
    have H := hide hF
    clear hF
    go_wp2_with fail
    go_ret
    exact ⟨UP.out.drewN _, checkM_bad (fun h => by have := h.2.2.2.2.1; have := H.out; have := HU.out; simp only at *; omega)⟩
  have d2 : decide ((U : Int) < (keys.length : Int)) = false := by simp; omega
  have d2' : decide (U < keys.length) = false := by simp; omega
  have HE : Hid (L ≤ keys.length) := hide (by simpa using d1')
  have HF : Hid (keys.length ≤ U) := hide (by omega)
  clear hF
  go_wp2_with fail
  refine (anyk_any _ (HS.out.upd_nil (UP.out.drewN _)) F9.out).mono ?_
  rintro e w2 ⟨hu2, rfl⟩
  have hX2 := hu2.get HX.out (by simp)
  have z2 : w2.cell? ⟨B, 2, none⟩ = some (.int .u8 (kind : Int)) := blk_cell hX2 rfl
  have z4 : w2.cell? ⟨B, 4, none⟩ = some (.string (strOf old)) := blk_cell hX2 rfl
  have z5 : w2.cell? ⟨B, 5, none⟩ = some (.string (strOf new)) := blk_cell hX2 rfl
  have z6 : w2.cell? ⟨B, 6, none⟩ = some (.int .i64 n) := blk_cell hX2 rfl
  have U2 := hide ((UP.out.drewN nq).trans hu2)
  clear hu2 hX2 x0 x2 x3 x4 x5 x6 y0 y1
  by_cases hG : ¬ ∀ k ∈ keys, KeyOk k
  · have q : (!decide (∀ k ∈ keys, KeyOk k)) = true := by simpa using hG
    have H := hide hG
    clear hG
    simp only [q]
    go_wp2_with fail
    go_ret
    exact ⟨U2.out, checkM_bad (fun h => H.out h.2.2.2.2.2.1)⟩
  have hG' : ∀ k ∈ keys, KeyOk k := Decidable.not_not.1 hG
  clear hG
  have hG := hG'
  clear hG'
  have q : (!decide (∀ k ∈ keys, KeyOk k)) = false := by simpa using hG
  have HG := hide hG
  clear hG
  simp only [q]
  by_cases hI : 64 < old.length
  · have d3 : decide ((64 : Int) < (old.length : Int)) = true := by simp; omega
    have H := hide hI
    clear hI
    go_wp2_with fail
    go_ret
    exact ⟨U2.out, checkM_bad (fun h => by have := h.2.2.2.2.2.2.1; have := H.out; simp only at *; omega)⟩
  have d3 : decide ((64 : Int) < (old.length : Int)) = false := by simp; omega
  have HI : Hid (old.length ≤ 64) := hide (by omega)
  clear hI
  by_cases hJ : 64 < new.length
  · have d4 : decide ((64 : Int) < (new.length : Int)) = true := by simp; omega
    have H := hide hJ
    clear hJ
    go_wp2_with fail
    go_ret
    exact ⟨U2.out, checkM_bad (fun h => by have := h.2.2.2.2.2.2.2.1; have := H.out; simp only at *; omega)⟩
  have d4 : decide ((64 : Int) < (new.length : Int)) = false := by simp; omega
  have HJ : Hid (new.length ≤ 64) := hide (by omega)
  clear hJ
  obtain ⟨bo, hbo⟩ : ∃ b, (strOf old).toList.isEmpty = b := ⟨_, rfl⟩
  obtain ⟨bn, hbn⟩ : ∃ b, (strOf new).toList.isEmpty = b := ⟨_, rfl⟩
  obtain ⟨b1, hb1⟩ : ∃ b, ((kind : Int) != 1) = b := ⟨_, rfl⟩
  obtain ⟨bz, hbz⟩ : ∃ b, (n != 0) = b := ⟨_, rfl⟩
  have hgood : Good ⟨client, seq, kind, keys, old, new, n⟩ ↔ ((bo || b5) && (bn || b5 || !b1) && (!bz || b4)) = true := by
    have e1 := EO.out; have e2 := EN.out
    rw [hbo] at e1
    rw [hbn] at e2
    subst e1; subst e2; subst hb1; subst hbz; subst hb5; subst hb4
    have i1 := HL.out; have i2 := HU.out; have i3 := HE.out; have i4 := HF.out
    subst i1; subst i2
    have j5 : ((kind : Int) == 5) = decide (kind = 5) := by by_cases h : kind = 5 <;> simp [h] <;> omega
    have j4 : ((kind : Int) == 4) = decide (kind = 4) := by by_cases h : kind = 4 <;> simp [h] <;> omega
    have j1 : ((kind : Int) != 1) = !decide (kind = 1) := by by_cases h : kind = 1 <;> simp [h] <;> omega
    have jz : (n != 0) = !decide (n = 0) := by by_cases h : n = 0 <;> simp [h]
    rw [j5, j4, j1, jz]
    unfold Good
    simp only [Bool.and_eq_true, Bool.or_eq_true, decide_eq_true_eq, Bool.not_not, ne_eq, HA.out, HB.out, hk9, i3, i4, HI.out, HJ.out, not_false_eq_true, true_and, or_assoc, and_assoc]
    constructor
    · rintro ⟨-, h⟩; exact h
    · intro h; exact ⟨HG.out, h⟩
  have GD := hide hgood
  clear hgood
  go_wp2_with fail
  all_goals
    go_ret
    clear hbo hbn hb1 hbz hb5 hb4
    first
    | exact ⟨U2.out, checkM_bad (fun h => by have := GD.out.1 h; revert this; cases b5 <;> cases b4 <;> cases b1 <;> cases bz <;> cases bo <;> cases bn <;> first | contradiction | (intro h0; exact absurd h0 (by decide)))⟩
    | exact ⟨U2.out, checkM_good (GD.out.2 (by cases b5 <;> cases b4 <;> cases b1 <;> cases bz <;> cases bo <;> cases bn <;> first | contradiction | rfl))⟩
end Go.Proofs.YthpnnffogbjhpaaGreatDoor.Cm
