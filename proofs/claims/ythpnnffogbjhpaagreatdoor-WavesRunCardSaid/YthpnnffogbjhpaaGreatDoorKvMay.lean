/- quorateref08.May. -/
import Derived.Test.YthpnnffogbjhpaaGreatDoorKvGH
set_option linter.unusedSimpArgs false
set_option linter.unusedVariables false
set_option linter.unnecessarySimpa false
namespace Go.Proofs.YthpnnffogbjhpaaGreatDoor.Kv
open Go.RowKit Go.Lib Go.Proofs.YthpnnffogbjhpaaGreatDoor.Crc Go.Proofs.YthpnnffogbjhpaaGreatDoor.Cm Go.Proofs.YthpnnffogbjhpaaGreatDoor.Var

theorem kind_cases {k : Nat} (h0 : k ≠ 0) (h9 : k < 9) : k = 1 ∨ k = 2 ∨ k = 3 ∨ k = 4 ∨ k = 5 ∨ k = 6 ∨ k = 7 ∨ k = 8 := by omega
theorem may_bad {c : Cm} (h : ¬ Cm.Good c) : Ending.returned (.bool false) = .returned (.bool (decide (Cm.Good c))) := by rw [decide_eq_false h]
theorem may_good {c : Cm} (h : Cm.Good c) : Ending.returned (.bool true) = .returned (.bool (decide (Cm.Good c))) := by rw [decide_eq_true h]
theorem may_var {c : Cm} {b : Bool} (h : b = true ↔ Cm.Good c) : Ending.returned (.bool b) = .returned (.bool (decide (Cm.Good c))) := by
  rw [show b = decide (Cm.Good c) from by cases b <;> simp_all]
set_option maxRecDepth 100000 in
set_option maxHeartbeats 4000000 in
theorem may_any {T : Nat → Prop} {v : Value} {c : Cm} (w : World) (h : CmAt w T v c) :
    Calls Tryz.prog 69 #[v] w fun e w' => Upd [] w w' ∧ e = .returned (.bool (decide (Cm.Good c))) := by
  obtain ⟨client, seq, kind, keys, old, new, n⟩ := c
  obtain ⟨⟨f1, f2, f3, f4, f5, f6, f7, f8, f9⟩, ks, rfl, hks⟩ := h
  simp only at f1 f2 f3 f4 f5 f6 f7 f8 f9 hks
  have HS := hide hks; have F9 := hide f9
  obtain ⟨xo, cp, rfl, hc1, hc2, hget⟩ := hks.get
  have HG := hide hget
  simp only [maxLen] at hc2
  clear hks f9 hget
  unfold cmv
  simp only [strV]
  have so := strOf_size old
  have sn := strOf_size new
  have eo := str_empty old
  have en := str_empty new
  have EO := hide eo; have EN := hide en
  clear eo en
  go_enter Tryz.func69, Tryz.ntmps69
  by_cases hB : kind = 0 ∨ 9 ≤ kind
  · have q1 : ((kind : Int) == 1) = false := by simp; omega
    have q2 : ((kind : Int) == 2) = false := by simp; omega
    have q3 : ((kind : Int) == 3) = false := by simp; omega
    have q4 : ((kind : Int) == 4) = false := by simp; omega
    have q5 : ((kind : Int) == 5) = false := by simp; omega
    have q6 : ((kind : Int) == 6) = false := by simp; omega
    have q7 : ((kind : Int) == 7) = false := by simp; omega
    have q8 : ((kind : Int) == 8) = false := by simp; omega
    have H := hide hB
    clear hB
    go_wp2_with fail
    go_ret
    refine ⟨(Upd.refl _ _).alloc _, may_bad ?_⟩
    rintro ⟨-, h1, h2, -⟩
    have := H.out
    simp only at h1 h2
    omega
  · obtain ⟨L, hL⟩ : ∃ L, lo kind = L := ⟨_, rfl⟩
    obtain ⟨U, hU⟩ : ∃ U, hi kind = U := ⟨_, rfl⟩
    have HL := hide hL; have HU := hide hU; have HB := hide hB
    clear hL hU hB
    go_upto_block 0 with fail
    go_cut [3, 4] from 8 (fun s3 s4 wx => s3 = .int .i64 (L : Int) ∧ s4 = .int .i64 (U : Int) ∧ wx = w.alloc (.cells #[Value.int IntKind.u32 (client : Int), .int .u32 (seq : Int), .int .u8 (kind : Int), .slice xo keys.length cp, .string (strOf old), .string (strOf new), .int .i64 n] TCmd))
    case first =>
      as_aux_lemma =>
      have h8 := kind_cases (k := kind) (by have := HB.out; omega) (by have := HB.out; omega)
      have hl := HL.out
      have hu := HU.out
      clear HL HU HB
      rcases h8 with rfl | rfl | rfl | rfl | rfl | rfl | rfl | rfl
      all_goals
        simp only [lo, hi] at hl hu
        subst hl; subst hu
        go_wp2_with fail
        go_meet
        case rel => exact ⟨rfl, rfl, rfl⟩
    case rest =>
      obtain ⟨rfl, rfl, rfl⟩ := hcut
      have hX := blk_new w (.cells #[Value.int IntKind.u32 (client : Int), .int .u32 (seq : Int), .int .u8 (kind : Int), .slice xo keys.length cp, .string (strOf old), .string (strOf new), .int .i64 n] TCmd)
      have hUp := (Upd.refl [] w).alloc (.cells #[Value.int IntKind.u32 (client : Int), .int .u32 (seq : Int), .int .u8 (kind : Int), .slice xo keys.length cp, .string (strOf old), .string (strOf new), .int .i64 n] TCmd)
      generalize w.alloc (.cells #[Value.int IntKind.u32 (client : Int), .int .u32 (seq : Int), .int .u8 (kind : Int), .slice xo keys.length cp, .string (strOf old), .string (strOf new), .int .i64 n] TCmd) = W at *
      generalize w.heap.size = B at *
      have x0 : W.cell? ⟨B, 0, none⟩ = some (.int .u32 (client : Int)) := blk_cell hX rfl
      have x2 : W.cell? ⟨B, 2, none⟩ = some (.int .u8 (kind : Int)) := blk_cell hX rfl
      have x3 : W.cell? ⟨B, 3, none⟩ = some (.slice xo keys.length cp) := blk_cell hX rfl
      have x4 : W.cell? ⟨B, 4, none⟩ = some (.string (strOf old)) := blk_cell hX rfl
      have x5 : W.cell? ⟨B, 5, none⟩ = some (.string (strOf new)) := blk_cell hX rfl
      have x6 : W.cell? ⟨B, 6, none⟩ = some (.int .i64 n) := blk_cell hX rfl
      have UP := hide hUp
      clear hX hUp
      go_wp2_with fail
      go_loop [5] (fun si => ∃ k : Nat, k ≤ keys.length ∧ si = .int .i64 k ∧ ∀ j x, j < k → keys[j]? = some x → KeyOk x) (fun si => keys.length - (RowKit.intOf si).toNat)
      case atStart => exact ⟨0, by omega, rfl, by omega⟩
      case round =>
        obtain ⟨k, hk, rfl, hall⟩ := hrel
        have HALL := hide hall
        clear hall
        by_cases hlt : k < keys.length
        · have d5 : decide ((k : Int) < keys.length) = true := by simp; omega
          have d5' : decide (k < keys.length) = true := by simpa using hlt
          obtain ⟨x, hi⟩ : ∃ x, keys[k]? = some x := ⟨_, List.getElem?_eq_getElem hlt⟩
          obtain ⟨b, off, rfl, hb, hcell⟩ := HG.out k x hi
          have hcell' := cell_upd hcell UP.out (by simp)
          have hxl := F9.out x (List.mem_of_getElem? hi)
          have sx := strOf_size x
          have HI := hide hi
          clear hi hcell
          by_cases hx1 : x.length < 1
          · have d6 : decide ((x.length : Int) < 1) = true := by simp; omega
            have hno : ¬ ∀ y ∈ keys, KeyOk y := fun h => by
              have := h x (List.mem_of_getElem? HI.out)
              have h0 : x = [] := List.eq_nil_of_length_eq_zero (by omega)
              exact this.1 h0
            have HN := hide hno
            clear hno hx1
            go_wp2_with fail
            go_ret
            exact ⟨UP.out, may_bad (fun h => HN.out h.2.2.2.2.2.1)⟩
          · have d6 : decide ((x.length : Int) < 1) = false := by simp; omega
            by_cases hx2 : 32 < x.length
            · have d7 : decide ((32 : Int) < (x.length : Int)) = true := by simp; omega
              have hno : ¬ ∀ y ∈ keys, KeyOk y := fun h => by
                have := h x (List.mem_of_getElem? HI.out)
                have := this.2
                omega
              have HN := hide hno
              clear hno hx1 hx2
              go_wp2_with fail
              go_ret
              exact ⟨UP.out, may_bad (fun h => HN.out h.2.2.2.2.2.1)⟩
            · have d7 : decide ((32 : Int) < (x.length : Int)) = false := by simp; omega
              have hok : KeyOk x := ⟨fun e => by rw [e] at hx1; simp at hx1, by omega⟩
              have HOK := hide hok
              clear hok hx1 hx2
              go_wp2_with fail
              go_round
              case rel => exact ⟨k + 1, by omega, by go_num, fun j y hj hy => by
                rcases Nat.lt_or_ge j k with h | h
                · exact HALL.out j y h hy
                · rw [show j = k by omega, HI.out] at hy
                  cases hy
                  exact HOK.out⟩
              case measure => simp [RowKit.intOf]; omega
        · have d5 : decide ((k : Int) < keys.length) = false := by simp; omega
          have d5' : decide (k < keys.length) = false := by simpa using hlt
          have hkeys : ∀ x ∈ keys, KeyOk x := fun x hx => by
            obtain ⟨j, hj⟩ := List.mem_iff_getElem?.1 hx
            have := (List.getElem?_eq_some_iff.1 hj).1
            exact HALL.out j x (by omega) hj
          have hkl : k = keys.length := by omega
          have HK := hide hkeys
          clear HALL hkeys hlt hk
          obtain ⟨bo, hbo⟩ : ∃ b, (strOf old).toList.isEmpty = b := ⟨_, rfl⟩
          obtain ⟨bn, hbn⟩ : ∃ b, (strOf new).toList.isEmpty = b := ⟨_, rfl⟩
          obtain ⟨b5, hb5⟩ : ∃ b, ((kind : Int) == 5) = b := ⟨_, rfl⟩
          obtain ⟨b4, hb4⟩ : ∃ b, ((kind : Int) == 4) = b := ⟨_, rfl⟩
          obtain ⟨b1, hb1⟩ : ∃ b, ((kind : Int) == 1) = b := ⟨_, rfl⟩
          obtain ⟨bz, hbz⟩ : ∃ b, (n == 0) = b := ⟨_, rfl⟩
          have hgood : Cm.Good ⟨client, seq, kind, keys, old, new, n⟩ ↔ (0 < client ∧ L ≤ keys.length ∧ keys.length ≤ U ∧ old.length ≤ 64 ∧ new.length ≤ 64 ∧ (bo = true ∨ b5 = true) ∧ (bn = true ∨ b1 = true ∨ b5 = true) ∧ (bz = true ∨ b4 = true)) := by
            have e1 := EO.out; have e2 := EN.out
            rw [hbo] at e1
            rw [hbn] at e2
            subst e1; subst e2; subst hb1; subst hbz; subst hb5; subst hb4
            have i1 := HL.out; have i2 := HU.out; have i3 := HB.out
            subst i1; subst i2
            have j5 : ((kind : Int) == 5) = true ↔ kind = 5 := by simp; omega
            have j4 : ((kind : Int) == 4) = true ↔ kind = 4 := by simp; omega
            have j1 : ((kind : Int) == 1) = true ↔ kind = 1 := by simp; omega
            rw [j5, j4, j1]
            simp only [decide_eq_true_eq, beq_iff_eq]
            unfold Cm.Good
            simp only
            constructor
            · rintro ⟨g1, g2, g3, g4, g5, g6, g7, g8, g9, g10, g11⟩
              exact ⟨by omega, g4, g5, g7, g8, g9, by rcases g10 with h | h | h; exact .inl h; exact .inr (.inr h); exact .inr (.inl h), g11⟩
            · rintro ⟨g1, g4, g5, g7, g8, g9, g10, g11⟩
              exact ⟨by omega, by omega, by omega, g4, g5, HK.out, g7, g8, g9, by rcases g10 with h | h | h; exact .inl h; exact .inr (.inr h); exact .inr (.inl h), g11⟩
          have GD := hide hgood
          clear hgood
          go_wp2_with fail
          all_goals
            go_ret
            first
            | exact ⟨UP.out, may_good (GD.out.2 ⟨by omega, by omega, by omega, by omega, by omega, by first | exact .inl ‹_› | exact .inr ‹_›, by first | exact .inl ‹_› | exact .inr (.inl ‹_›) | exact .inr (.inr ‹_›), by first | exact .inl ‹_› | exact .inr ‹_›⟩)⟩
            | exact ⟨UP.out, may_var ⟨fun h4 => GD.out.2 ⟨by omega, by omega, by omega, by omega, by omega, by first | exact .inl ‹_› | exact .inr ‹_›, by first | exact .inl ‹_› | exact .inr (.inl ‹_›) | exact .inr (.inr ‹_›), .inr h4⟩, fun h => by
                obtain ⟨g0, g1, g2, g3, g4, g5, g6, g7⟩ := GD.out.1 h
                rcases g7 with g7 | g7
                · contradiction
                · exact g7⟩⟩
            | exact ⟨UP.out, may_bad (fun h => by
                obtain ⟨g0, g1, g2, g3, g4, g5, g6, g7⟩ := GD.out.1 h
                first | omega | (rcases g5 with g5 | g5 <;> contradiction) | (rcases g6 with g6 | g6 | g6 <;> contradiction) | (rcases g7 with g7 | g7 <;> contradiction))⟩
end Go.Proofs.YthpnnffogbjhpaaGreatDoor.Kv
