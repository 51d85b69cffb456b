/- KvKy, TbKy, KvKs in one text. -/
import Derived.Test.YthpnnffogbjhpaaGreatDoorKvS
import Derived.Test.YthpnnffogbjhpaaGreatDoorGenAll
import Derived.Test.YthpnnffogbjhpaaGreatDoorKvPure
set_option linter.unusedSimpArgs false
set_option linter.unusedVariables false
set_option linter.unnecessarySimpa false
namespace Go.Proofs.YthpnnffogbjhpaaGreatDoor.Kv
set_option linter.unusedSimpArgs false
set_option linter.unusedVariables false
set_option linter.unnecessarySimpa false
open Go.RowKit Go.Lib Go.Proofs.YthpnnffogbjhpaaGreatDoor.Crc Go.Proofs.YthpnnffogbjhpaaGreatDoor.Cm

def KeysOf (m : KM) (ss : List (List UInt8)) : Prop := ss.Nodup ∧ ∀ k, k ∈ ss ↔ ∃ v, mfind m k = some v
set_option maxHeartbeats 2000000 in
theorem keys_iter {p g : Nat} {m : KM} (hok : ∀ q ∈ m, q.1.length ≤ maxLen) :
    IterP Tryz.prog 123 #[] #[.pointer (some ⟨p, 0, none⟩)] (fun k : List UInt8 => #[.string (strOf k)]) (KeysOf m) (fun pre x => x ∉ pre ∧ ∃ v, mfind m x = some v) [] []
      (fun W => W.cell? ⟨p, 0, none⟩ = some (.map (some g)) ∧ kvK.is W g m) := by
  intro nn l J Jx W hD hY hJ hJw hJx hJ0
  obtain ⟨hc, hs⟩ := hD
  refine callsIn_wide.2 ?_
  go_enter Tryz.func123, Tryz.ntmps123
  have HY := hide hY
  have HJ := hide hJ
  have HJw := hide hJw
  have HJx := hide hJx
  have HJ0 := hide hJ0
  have HOK := hide hok
  have hls := MapKind.is_lt hs
  clear hY hJ hJx hJ0 hJw hok
  go_wp2_with (first
    | (at_range; refine wpList_range_map (M := kvK) _ rfl _ rfl rfl hs ?_; intro w0 hrg0 hg0 hs0)
    | go_in)
  go_loopw [3] (fun _ wr => ∃ (left : Lit → Bool) (cnt : Nat) (ss : List (List UInt8)), kvK.rng wr g W.heap.size m left cnt ∧ ss.Nodup ∧ (∀ k, k ∈ ss ↔ (∃ v, mfind m k = some v) ∧ left (strK.lit k) = false) ∧ J ss wr) (fun _ wr => wr.rangeLeft g W.heap.size)
  case atStart =>
    refine ⟨_, _, [], hrg0, by simp, fun k => ?_, HJ.out _ _ _ HJ0.out hg0⟩
    show _ ↔ _ ∧ Maps.has (toD strK kvK.dat m) (strK.lit k) = false
    rw [toD_has]
    cases mfind m k <;> simp
  case round =>
    obtain ⟨left, cnt, ss, hrg, hnd, hmem, hj⟩ := hrel
    have ND := hide hnd; have MEM := hide hmem; have HJ2 := hide hj
    clear hnd hmem hj
    go_wp2_with (first
      | (at_next; refine wpList_next_map (M := kvK) _ rfl _ rfl rfl hrg (fun p hp => HOK.out p hp) ?_ ?_)
      | go_in)
    · intro hc0 hl0
      go_wp2
      go_end0
      exact ⟨⟨_, rfl⟩, .inl ⟨ss, ⟨ND.out, fun k => (MEM.out k).trans ⟨And.left, fun h => ⟨h, hl0 _⟩⟩⟩, HJ2.out⟩⟩
    · intro k v w1 cnt1 hlk hv hrg1 hlt hu1 hs1 hen
      obtain ⟨o, ho, hwo⟩ := hrg.iter_walk
      have hj1 := HJw.out _ _ _ _ _ HJ2.out (Nat.le_refl _) ho hwo hu1
      have hnm : k ∉ ss := fun h => by
        have h1 := ((MEM.out k).1 h).2
        rw [show strK.lit k = kvK.K.lit k from rfl, hlk] at h1
        cases h1
      have hen' : (Instr.entry (.pointer (some ⟨W.heap.size, 0, none⟩))).run Tryz.prog w1 = .ok (.tuple #[.string (strOf k), .string (strOf v)]) w1 := hen
      obtain ⟨fn, tmps, assign, body, hy, hR⟩ := HY.out ss k w1 hj1 ⟨hnm, v, hv⟩
      replace hy : (Instr.yield l #[.string (strOf k)]).run Tryz.prog w1 = .ok (.round l fn tmps assign body) w1 := hy
      have HRR := hide hR; have RG1 := hide hrg1; have HJ1 := hide hj1
      clear hR hrg1 hj1 hen
      show wpList _ _ _ _ { tmps := #[_, _, _, _, _, _, .tuple #[.bool true, .string (strOf k), .string (strOf v)], _, _, _, _, _, _, _], defers := _ } _
      go_upto_block 1 with fail
      refine (wpIn_wide (n := nn + 1)).1 ?_
      gi_wp2
      refine HRR.out.mono ?_
      rintro e W' (⟨rfl, hj3, hk3, hw3⟩ | ⟨rfl, hjx3⟩)
      · have hrg3 : kvK.rng W' g W.heap.size m (fun z => left z && !z.sameKey (strK.lit k)) cnt1 := World.ranges.of_walks RG1.out hw3
        have HJ3 := hide hj3; have RG3 := hide hrg3
        have hcnt := MapKind.rng_cnt hrg
        have hcnt3 := MapKind.rng_cnt hrg3
        clear hy HY hj3 hk3 hw3 hrg3 hrg
        gi_wp2
        go_wp2_with fail
        go_roundw
        case rel =>
          refine ⟨_, cnt1, ss ++ [k], RG3.out, ?_, fun j => ?_, HJ3.out⟩
          · have := ND.out
            rw [List.nodup_append]
            exact ⟨this, by simp, by simp; rintro a ha rfl; exact hnm ha⟩
          · rw [List.mem_append, MEM.out j, List.mem_singleton]
            simp only [Kys.same, Bool.and_eq_false_iff, Bool.not_eq_false', decide_eq_true_eq]
            constructor
            · rintro (⟨h1, h2⟩ | rfl)
              · exact ⟨h1, .inl h2⟩
              · exact ⟨⟨v, hv⟩, .inr rfl⟩
            · rintro ⟨h1, h2 | h2⟩
              · exact .inl ⟨h1, h2⟩
              · exact .inr h2
        case measure => rw [hcnt, hcnt3]; exact hlt
      · clear hy HY hrg
        have HJ3 := hide hjx3
        clear hjx3
        gi_wp2
        go_wp2_with fail
        refine bodyPost_ret (results_none rfl _ _ _) rfl ?_
        exact ⟨⟨_, rfl⟩, .inr ⟨_, HJ3.out⟩⟩
theorem mkeys_any {g : Nat} (w : World) :
    Calls Tryz.prog 96 #[.map (some g)] w fun e w' => e = .returned (.func (.func 123) #[] #[.pointer (some ⟨w.heap.size, 0, none⟩)]) ∧
      w'.cell? ⟨w.heap.size, 0, none⟩ = some (.map (some g)) ∧ w.heap.size < w'.heap.size ∧ Upd [] w w' := by
  go_enter Tryz.func96, Tryz.ntmps96
  go_wp2_with fail
  go_ret
  exact ⟨rfl, blk_cell (blk_new _ _) rfl, by simp, (Upd.refl _ _).alloc _⟩
end Go.Proofs.YthpnnffogbjhpaaGreatDoor.Kv
namespace Go.Proofs.YthpnnffogbjhpaaGreatDoor.Kv
set_option linter.unusedSimpArgs false
set_option linter.unusedVariables false
open Go.RowKit Go.Proofs.YthpnnffogbjhpaaGreatDoor.Crc Go.Proofs.YthpnnffogbjhpaaGreatDoor.Cm
/-- The keys of a store, in whatever order they came, sorted. -/
theorem keys_sort {m : KM} {ss : List (List UInt8)} (hr : Rise strK m) (hn : ss.Nodup) (hk : ∀ k, k ∈ ss ↔ ∃ v, mfind m k = some v) : ss.mergeSort (fun x y => decide (x ≤ y)) = m.map (·.1) := by
  have hp := List.mergeSort_perm ss fun x y => decide (x ≤ y)
  have hs : (ss.mergeSort fun x y => decide (x ≤ y)).Pairwise fun x y => decide (x ≤ y) = true := List.pairwise_mergeSort (fun a b c h1 h2 => by simp at *; exact List.le_trans h1 h2) (fun a b => by simp; exact List.le_total a b) ss
  have hnd : (ss.mergeSort fun x y => decide (x ≤ y)).Nodup := hp.nodup_iff.2 hn
  refine asc_ext ?_ ?_ fun x => ?_
  · have h2 := hs.and hnd
    refine h2.imp fun {a b} h => ?_
    obtain ⟨h3, h4⟩ := h
    rcases lex_total h4 with h5 | h5
    · exact h5
    · simp at h3
      exact absurd h5 h3
  · have := List.pairwise_map.2 (hr.imp fun {a b} h => (show a.1 < b.1 by simpa [strK_lt] using h))
    exact this
  · rw [hp.mem_iff, hk]
    constructor
    · rintro ⟨v, hv⟩
      exact List.mem_map.2 ⟨_, mfind_mem hv, rfl⟩
    · intro h
      obtain ⟨p, hp, rfl⟩ := List.mem_map.1 h
      exact mfind_of_mem hp
end Go.Proofs.YthpnnffogbjhpaaGreatDoor.Kv
namespace Go.Proofs.YthpnnffogbjhpaaGreatDoor.Kv
set_option linter.unusedSimpArgs false
set_option linter.unusedVariables false
set_option linter.unnecessarySimpa false
open Go.RowKit Go.Lib Go.Proofs.YthpnnffogbjhpaaGreatDoor.Crc Go.Proofs.YthpnnffogbjhpaaGreatDoor.Cm

def KeysOfU (m : TM) (ss : List Nat) : Prop := ss.Nodup ∧ ∀ k, k ∈ ss ↔ ∃ v, mfind m k = some v
set_option maxHeartbeats 2000000 in
theorem keysU_iter {p g : Nat} {m : TM} (hok : ∀ q ∈ m, q.1 < 4294967296) :
    IterP Tryz.prog 93 #[] #[.pointer (some ⟨p, 0, none⟩)] (fun k : Nat => #[.int .u32 (k : Int)]) (KeysOfU m) (fun pre x => x ∉ pre ∧ ∃ v, mfind m x = some v) [] []
      (fun W => W.cell? ⟨p, 0, none⟩ = some (.map (some g)) ∧ tbK.is W g m) := by
  intro nn l J Jx W hD hY hJ hJw hJx hJ0
  obtain ⟨hc, hs⟩ := hD
  refine callsIn_wide.2 ?_
  go_enter Tryz.func93, Tryz.ntmps93
  have HY := hide hY
  have HJ := hide hJ
  have HJw := hide hJw
  have HJx := hide hJx
  have HJ0 := hide hJ0
  have HOK := hide hok
  have hls := MapKind.is_lt hs
  clear hY hJ hJx hJ0 hJw hok
  go_wp2_with (first
    | (at_range; refine wpList_range_map (M := tbK) _ rfl _ rfl rfl hs ?_; intro w0 hrg0 hg0 hs0)
    | go_in)
  go_loopw [3] (fun _ wr => ∃ (left : Lit → Bool) (cnt : Nat) (ss : List Nat), tbK.rng wr g W.heap.size m left cnt ∧ ss.Nodup ∧ (∀ k, k ∈ ss ↔ (∃ v, mfind m k = some v) ∧ left (cliK.lit k) = false) ∧ J ss wr) (fun _ wr => wr.rangeLeft g W.heap.size)
  case atStart =>
    refine ⟨_, _, [], hrg0, by simp, fun k => ?_, HJ.out _ _ _ HJ0.out hg0⟩
    show _ ↔ _ ∧ Maps.has (toD cliK tbK.dat m) (cliK.lit k) = false
    rw [toD_has]
    cases mfind m k <;> simp
  case round =>
    obtain ⟨left, cnt, ss, hrg, hnd, hmem, hj⟩ := hrel
    have ND := hide hnd; have MEM := hide hmem; have HJ2 := hide hj
    clear hnd hmem hj
    go_wp2_with (first
      | (at_next; refine wpList_next_map (M := tbK) _ rfl _ rfl rfl hrg (fun p hp => HOK.out p hp) ?_ ?_)
      | go_in)
    · intro hc0 hl0
      go_wp2
      go_end0
      exact ⟨⟨_, rfl⟩, .inl ⟨ss, ⟨ND.out, fun k => (MEM.out k).trans ⟨And.left, fun h => ⟨h, hl0 _⟩⟩⟩, HJ2.out⟩⟩
    · intro k v w1 cnt1 hlk hv hrg1 hlt hu1 hs1 hen
      obtain ⟨o, ho, hwo⟩ := hrg.iter_walk
      have hj1 := HJw.out _ _ _ _ _ HJ2.out (Nat.le_refl _) ho hwo hu1
      have hnm : k ∉ ss := fun h => by
        have h1 := ((MEM.out k).1 h).2
        rw [show cliK.lit k = tbK.K.lit k from rfl, hlk] at h1
        cases h1
      have hen' : (Instr.entry (.pointer (some ⟨W.heap.size, 0, none⟩))).run Tryz.prog w1 = .ok (.tuple #[.int .u32 (k : Int), lastV v]) w1 := hen
      obtain ⟨fn, tmps, assign, body, hy, hR⟩ := HY.out ss k w1 hj1 ⟨hnm, v, hv⟩
      replace hy : (Instr.yield l #[.int .u32 (k : Int)]).run Tryz.prog w1 = .ok (.round l fn tmps assign body) w1 := hy
      have HRR := hide hR; have RG1 := hide hrg1; have HJ1 := hide hj1
      clear hR hrg1 hj1 hen
      show wpList _ _ _ _ { tmps := #[_, _, _, _, _, _, .tuple #[.bool true, .int .u32 (k : Int), lastV v], _, _, _, _, _, _, _], defers := _ } _
      go_upto_block 1 with fail
      refine (wpIn_wide (n := nn + 1)).1 ?_
      gi_wp2
      refine HRR.out.mono ?_
      rintro e W' (⟨rfl, hj3, hk3, hw3⟩ | ⟨rfl, hjx3⟩)
      · have hrg3 : tbK.rng W' g W.heap.size m (fun z => left z && !z.sameKey (cliK.lit k)) cnt1 := World.ranges.of_walks RG1.out hw3
        have HJ3 := hide hj3; have RG3 := hide hrg3
        have hcnt := MapKind.rng_cnt hrg
        have hcnt3 := MapKind.rng_cnt hrg3
        clear hy HY hj3 hk3 hw3 hrg3 hrg
        gi_wp2
        go_wp2_with fail
        go_roundw
        case rel =>
          refine ⟨_, cnt1, ss ++ [k], RG3.out, ?_, fun j => ?_, HJ3.out⟩
          · have := ND.out
            rw [List.nodup_append]
            exact ⟨this, by simp, by simp; rintro a ha rfl; exact hnm ha⟩
          · rw [List.mem_append, MEM.out j, List.mem_singleton]
            simp only [Kys.same, Bool.and_eq_false_iff, Bool.not_eq_false', decide_eq_true_eq]
            constructor
            · rintro (⟨h1, h2⟩ | rfl)
              · exact ⟨h1, .inl h2⟩
              · exact ⟨⟨v, hv⟩, .inr rfl⟩
            · rintro ⟨h1, h2 | h2⟩
              · exact .inl ⟨h1, h2⟩
              · exact .inr h2
        case measure => rw [hcnt, hcnt3]; exact hlt
      · clear hy HY hrg
        have HJ3 := hide hjx3
        clear hjx3
        gi_wp2
        go_wp2_with fail
        refine bodyPost_ret (results_none rfl _ _ _) rfl ?_
        exact ⟨⟨_, rfl⟩, .inr ⟨_, HJ3.out⟩⟩
theorem mkeysU_any {g : Nat} (w : World) :
    Calls Tryz.prog 64 #[.map (some g)] w fun e w' => e = .returned (.func (.func 93) #[] #[.pointer (some ⟨w.heap.size, 0, none⟩)]) ∧
      w'.cell? ⟨w.heap.size, 0, none⟩ = some (.map (some g)) ∧ w.heap.size < w'.heap.size ∧ Upd [] w w' := by
  go_enter Tryz.func64, Tryz.ntmps64
  go_wp2_with fail
  go_ret
  exact ⟨rfl, blk_cell (blk_new _ _) rfl, by simp, (Upd.refl _ _).alloc _⟩
end Go.Proofs.YthpnnffogbjhpaaGreatDoor.Kv
