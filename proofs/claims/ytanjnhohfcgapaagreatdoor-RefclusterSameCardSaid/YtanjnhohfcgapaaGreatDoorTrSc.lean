/- cmd.Same, quorateref08.Same: two commands are alike; slices.Equal of strings. -/
import Derived.Test.YtanjnhohfcgapaaGreatDoorTrV
set_option linter.unusedSimpArgs false
set_option linter.unusedVariables false
set_option linter.unnecessarySimpa false
namespace Go.Proofs.YtanjnhohfcgapaaGreatDoor.Tr
open Go.RowKit Go.Proofs.YtanjnhohfcgapaaGreatDoor.Crc Go.Proofs.YtanjnhohfcgapaaGreatDoor.Cm

theorem eq_of_all {X : Type} {a b : List X} (hl : a.length = b.length) (h : ∀ i, i < a.length → a[i]? = b[i]?) : a = b := by
  apply List.ext_getElem? fun i => ?_
  by_cases hi : i < a.length
  · exact h i hi
  · rw [List.getElem?_eq_none (by omega), List.getElem?_eq_none (by omega)]
theorem strs_at {w w' : World} {T : Nat → Prop} {v : Value} {l : List (List UInt8)} {b off k : Nat} {p : List UInt8} (hb : b < w.heap.size) (hu : Upd [] w w') (hc : w.cell? ⟨b, off + k, none⟩ = some (.string (strOf p))) : w'.cell? ⟨b, off + k, none⟩ = some (.string (strOf p)) := by
  rw [← hc]; have := hu.block b hb (by simp); simp only [World.cell?, this]
set_option maxRecDepth 100000 in
set_option maxHeartbeats 2000000 in
theorem eqs_any {T U : Nat → Prop} {va vb : Value} {a b : List (List UInt8)} (w : World) (ha : Strs w T va a) (hb : Strs w U vb b) :
    Calls Tryz.prog 153 #[va, vb] w fun e w' => e = .returned (.bool (decide (a = b))) ∧ Upd [] w w' := by
  obtain ⟨xo, c, rfl, h1, h2, hga⟩ := ha.get
  obtain ⟨yo, d, rfl, k1, k2, hgb⟩ := hb.get
  have HGA := hide hga; have HGB := hide hgb
  simp only [maxLen] at h2 k2
  clear ha hb hga hgb
  go_enter Tryz.func153, Tryz.ntmps153
  by_cases hl : a.length = b.length
  · have q1 : ((a.length : Int) != (b.length : Int)) = false := by simp; omega
    have q2 : ((a.length : Int) == (b.length : Int)) = true := by simp; omega
    have HL := hide hl
    clear hl
    go_wp2_with fail
    go_loopw [13] (fun si wr => ∃ k : Nat, k ≤ a.length ∧ si = .int .i64 k ∧ Upd [] w wr ∧ ∀ i, i < k → a[i]? = b[i]?) (fun si _ => a.length - (intOf si).toNat)
    case atStart => exact ⟨0, by omega, rfl, Upd.refl _ _, by omega⟩
    case round =>
      obtain ⟨k, hk, rfl, hu, hall⟩ := hrel
      have HU := hide hu; have HALL := hide hall
      clear hu hall
      by_cases hlt : k < a.length
      · have d5 : decide ((k : Int) < a.length) = true := by simp; omega
        have d5' : decide (k < a.length) = true := by simpa using hlt
        have hltb : k < b.length := by have := HL.out; omega
        have d6 : decide ((k : Int) < b.length) = true := by simp; omega
        have d6' : decide (k < b.length) = true := by simpa using hltb
        obtain ⟨p, hp⟩ : ∃ p, a[k]? = some p := ⟨_, List.getElem?_eq_getElem hlt⟩
        obtain ⟨q, hq⟩ : ∃ q, b[k]? = some q := ⟨_, List.getElem?_eq_getElem hltb⟩
        obtain ⟨ba, oa, rfl, hba, hca⟩ := HGA.out k p hp
        obtain ⟨bb, ob, rfl, hbb, hcb⟩ := HGB.out k q hq
        have hca' := strs_at (T := T) (v := .slice none 0 0) (l := a) hba HU.out hca
        have hcb' := strs_at (T := T) (v := .slice none 0 0) (l := a) hbb HU.out hcb
        have hs := strOf_eq p q
        by_cases hpq : p = q
        · have hs2 : ((strOf p).toList == (strOf q).toList) = true := by rw [hs]; simpa using hpq
          have hs3 : ((strOf p).toList != (strOf q).toList) = false := by simp [bne, hs2]
          have HP := hide (hp.trans ((congrArg some hpq).trans hq.symm))
          clear hp hq hca hcb hs hpq
          go_wp2_with fail
          go_quiet (fail)
          go_wp2_with fail
          go_roundw
          case rel => exact ⟨k + 1, by omega, by go_num, HU.out.drewN _, fun i hi => by
            rcases Nat.lt_or_ge i k with h | h
            · exact HALL.out i h
            · rw [show i = k by omega]; exact HP.out⟩
          case measure => simp [intOf]; omega
        · have hs2 : ((strOf p).toList == (strOf q).toList) = false := by rw [hs]; simpa using hpq
          have hs3 : ((strOf p).toList != (strOf q).toList) = true := by simp [bne, hs2]
          have hne : a ≠ b := by
            intro e
            rw [e, hq] at hp
            cases hp
            exact hpq rfl
          have HNE := hide hne
          clear hp hq hca hcb hs hpq hne
          go_wp2_with fail
          go_quiet (fail)
          go_wp2_with fail
          go_ret
          exact ⟨by simp [HNE.out], HU.out.drewN _⟩
      · have d5 : decide ((k : Int) < a.length) = false := by simp; omega
        have d5' : decide (k < a.length) = false := by simpa using hlt
        have he : a = b := eq_of_all HL.out fun i hi => HALL.out i (by omega)
        have HE := hide he
        clear he
        go_wp2_with fail
        go_ret
        exact ⟨by simp [HE.out], HU.out⟩
  · have q1 : ((a.length : Int) != (b.length : Int)) = true := by simp; omega
    have q2 : ((a.length : Int) == (b.length : Int)) = false := by simp; omega
    have HL := hide hl
    clear hl
    go_wp2_with fail
    go_ret
    have hne : a ≠ b := fun e => HL.out (by rw [e])
    exact ⟨by simp [hne], Upd.refl _ _⟩
set_option maxRecDepth 100000 in
set_option maxHeartbeats 4000000 in
theorem csame_any {T U : Nat → Prop} {va vb : Value} {a b : Cm} (w : World) (ha : CmAt w T va a) (hb : CmAt w U vb b) :
    Calls Tryz.prog 130 #[va, vb] w fun e w' => e = .returned (.bool (decide (a = b))) ∧ Upd [] w w' := by
  obtain ⟨-, ka, rfl, hka⟩ := ha
  obtain ⟨-, kb, rfl, hkb⟩ := hb
  obtain ⟨xa, ca, rfl, h1, h2, hga⟩ := hka.get
  obtain ⟨xb, cb, rfl, k1, k2, hgb⟩ := hkb.get
  have KA := hide hka; have KB := hide hkb; have HGA := hide hga; have HGB := hide hgb
  simp only [maxLen] at h2 k2
  clear hka hkb hga hgb
  unfold cmv
  simp only [strV]
  have hX := blk_alloc (blk_new w (.cells #[.int .u32 (a.client : Int), .int .u32 (a.seq : Int), .int .u8 (a.kind : Int), .slice xa a.keys.length ca, .string (strOf a.old), .string (strOf a.new), .int .i64 a.n] TCmd)) (.cells #[.int .u32 (b.client : Int), .int .u32 (b.seq : Int), .int .u8 (b.kind : Int), .slice xb b.keys.length cb, .string (strOf b.old), .string (strOf b.new), .int .i64 b.n] TCmd)
  have hY := blk_new (w.alloc (.cells #[.int .u32 (a.client : Int), .int .u32 (a.seq : Int), .int .u8 (a.kind : Int), .slice xa a.keys.length ca, .string (strOf a.old), .string (strOf a.new), .int .i64 a.n] TCmd)) (.cells #[.int .u32 (b.client : Int), .int .u32 (b.seq : Int), .int .u8 (b.kind : Int), .slice xb b.keys.length cb, .string (strOf b.old), .string (strOf b.new), .int .i64 b.n] TCmd)
  have hU := ((Upd.refl [] w).alloc (.cells #[.int .u32 (a.client : Int), .int .u32 (a.seq : Int), .int .u8 (a.kind : Int), .slice xa a.keys.length ca, .string (strOf a.old), .string (strOf a.new), .int .i64 a.n] TCmd)).alloc (.cells #[.int .u32 (b.client : Int), .int .u32 (b.seq : Int), .int .u8 (b.kind : Int), .slice xb b.keys.length cb, .string (strOf b.old), .string (strOf b.new), .int .i64 b.n] TCmd)
  rw [World.size_alloc] at hY
  have X := hide hX; have Y := hide hY; have U0 := hide hU
  clear hX hY hU
  go_enter Tryz.func130, Tryz.ntmps130
  by_cases hclient : a.client = b.client
  · have qclient : ((a.client : Int) == (b.client : Int)) = true := by simp; omega
    have Hclient := hide hclient
    clear hclient
    by_cases hseq : a.seq = b.seq
    · have qseq : ((a.seq : Int) == (b.seq : Int)) = true := by simp; omega
      have Hseq := hide hseq
      clear hseq
      by_cases hkind : a.kind = b.kind
      · have qkind : ((a.kind : Int) == (b.kind : Int)) = true := by simp; omega
        have Hkind := hide hkind
        clear hkind
        go_wp2_with fail
        refine (eqs_any _ (KA.out.upd_nil U0.out) (KB.out.upd_nil U0.out)).mono ?_
        rintro e w2 ⟨rfl, hu2⟩
        have X2 := hide (hu2.get X.out (by simp)); have Y2 := hide (hu2.get Y.out (by simp)); have U2 := hide (U0.out.trans hu2)
        clear hu2
        have x4 : w2.cell? ⟨w.heap.size, 4, none⟩ = some (.string (strOf a.old)) := blk_cell X2.out rfl
        have x5 : w2.cell? ⟨w.heap.size, 5, none⟩ = some (.string (strOf a.new)) := blk_cell X2.out rfl
        have x6 : w2.cell? ⟨w.heap.size, 6, none⟩ = some (.int .i64 a.n) := blk_cell X2.out rfl
        have y4 : w2.cell? ⟨w.heap.size + 1, 4, none⟩ = some (.string (strOf b.old)) := blk_cell Y2.out rfl
        have y5 : w2.cell? ⟨w.heap.size + 1, 5, none⟩ = some (.string (strOf b.new)) := blk_cell Y2.out rfl
        have y6 : w2.cell? ⟨w.heap.size + 1, 6, none⟩ = some (.int .i64 b.n) := blk_cell Y2.out rfl
        by_cases hkeys : a.keys = b.keys
        · have qk : decide (a.keys = b.keys) = true := by simpa using hkeys
          have Hkeys := hide hkeys
          rw [qk]
          clear hkeys qk
          by_cases hold : a.old = b.old
          · have qold : ((strOf a.old).toList == (strOf b.old).toList) = true := by rw [strOf_eq]; simpa using hold
            have Hold := hide hold
            clear hold
            by_cases hnew : a.new = b.new
            · have qnew : ((strOf a.new).toList == (strOf b.new).toList) = true := by rw [strOf_eq]; simpa using hnew
              have Hnew := hide hnew
              clear hnew
              by_cases hn : a.n = b.n
              · have qn : (a.n == b.n) = true := by simpa using hn
                have Hn := hide hn
                clear hn
                go_wp2_with fail
                go_ret
                have he : a = b := by cases a; cases b; simp only [Cm.mk.injEq]; exact ⟨Hclient.out, Hseq.out, Hkind.out, Hkeys.out, Hold.out, Hnew.out, Hn.out⟩
                exact ⟨by simp [he], U2.out⟩
              · have qn : (a.n == b.n) = false := by simpa using hn
                have Hn := hide hn
                clear hn
                go_wp2_with fail
                go_ret
                have hne : a ≠ b := fun e => Hn.out (by rw [e])
                exact ⟨by simp [hne], U2.out⟩
            · have qnew : ((strOf a.new).toList == (strOf b.new).toList) = false := by rw [strOf_eq]; simpa using hnew
              have Hnew := hide hnew
              clear hnew
              go_wp2_with fail
              go_ret
              have hne : a ≠ b := fun e => Hnew.out (by rw [e])
              exact ⟨by simp [hne], U2.out⟩
          · have qold : ((strOf a.old).toList == (strOf b.old).toList) = false := by rw [strOf_eq]; simpa using hold
            have Hold := hide hold
            clear hold
            go_wp2_with fail
            go_ret
            have hne : a ≠ b := fun e => Hold.out (by rw [e])
            exact ⟨by simp [hne], U2.out⟩
        · have qk : decide (a.keys = b.keys) = false := by simpa using hkeys
          have Hkeys := hide hkeys
          rw [qk]
          clear hkeys qk
          go_wp2_with fail
          go_ret
          have hne : a ≠ b := fun e => Hkeys.out (by rw [e])
          exact ⟨by simp [hne], U2.out⟩
      · have qkind : ((a.kind : Int) == (b.kind : Int)) = false := by simp; omega
        have Hkind := hide hkind
        clear hkind
        go_wp2_with fail
        go_ret
        have hne : a ≠ b := fun e => Hkind.out (by rw [e])
        exact ⟨by simp [hne], U0.out⟩
    · have qseq : ((a.seq : Int) == (b.seq : Int)) = false := by simp; omega
      have Hseq := hide hseq
      clear hseq
      go_wp2_with fail
      go_ret
      have hne : a ≠ b := fun e => Hseq.out (by rw [e])
      exact ⟨by simp [hne], U0.out⟩
  · have qclient : ((a.client : Int) == (b.client : Int)) = false := by simp; omega
    have Hclient := hide hclient
    clear hclient
    go_wp2_with fail
    go_ret
    have hne : a ≠ b := fun e => Hclient.out (by rw [e])
    exact ⟨by simp [hne], U0.out⟩
end Go.Proofs.YtanjnhohfcgapaaGreatDoor.Tr
