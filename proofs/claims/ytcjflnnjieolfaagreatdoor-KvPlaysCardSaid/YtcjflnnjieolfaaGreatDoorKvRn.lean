/- quorateref09: Find, digits, Decimal. -/
import Derived.Test.YtcjflnnjieolfaaGreatDoorKvRq
import Derived.Test.YtcjflnnjieolfaaGreatDoorKvHp
import Derived.Test.YtcjflnnjieolfaaGreatDoorKvPure
namespace Go.Proofs.YtcjflnnjieolfaaGreatDoor.Kv
set_option linter.unusedSimpArgs false
set_option linter.unusedVariables false
set_option linter.unnecessarySimpa false
open Go.RowKit Go.Lib Go.Proofs.YtcjflnnjieolfaaGreatDoor.Crc Go.Proofs.YtcjflnnjieolfaaGreatDoor.Cm

def FindIs (m : KM) (k : List UInt8) (i : Int) : Prop := (i = -1 ∧ mfind m k = none) ∨ ∃ (j : Nat) (v : List UInt8), i = (j : Int) ∧ m[j]? = some (k, v) ∧ mfind m k = some v
theorem find_first {m : KM} {k : List UInt8} {j : Nat} {p : List UInt8 × List UInt8} (hp : m[j]? = some p) (hk : p.1 = k) (h : ∀ i q, i < j → m[i]? = some q → q.1 ≠ k) : mfind m k = some p.2 := by
  induction m generalizing j with
  | nil => simp at hp
  | cons a t ih =>
    rw [mfind_cons]
    cases j with
    | zero => simp at hp; subst hp; rw [if_pos hk]
    | succ j =>
      rw [if_neg (h 0 a (by omega) rfl)]
      exact ih (by simpa using hp) fun i q hi hq => h (i + 1) q (by omega) (by simpa using hq)
set_option maxRecDepth 100000 in
set_option maxHeartbeats 1000000 in
theorem find_any {T : Nat → Prop} {v : Value} {m : KM} {k : List UInt8} (w : World) (h : pairK.row w T v m) :
    Calls Tryz.prog 19 #[v, .string (strOf k)] w fun e w' => (∃ i, e = .returned (.int .i64 i) ∧ FindIs m k i) ∧ w = w' := by
  obtain ⟨xo, cp, rfl, h1, h2, hget⟩ := pair_get h
  simp only [maxLen] at h2
  have HG := hide hget
  clear h hget
  go_enter Tryz.func19, Tryz.ntmps19
  go_wp2_with fail
  go_loop [5] (fun si => ∃ i : Nat, i ≤ m.length ∧ si = .int .i64 i ∧ ∀ j p, j < i → m[j]? = some p → p.1 ≠ k) (fun si => m.length - (RowKit.intOf si).toNat)
  case atStart => exact ⟨0, by omega, rfl, by omega⟩
  case round =>
    obtain ⟨i, hi, rfl, hall⟩ := hrel
    have HALL := hide hall
    clear hall
    by_cases hlt : i < m.length
    · have d5 : decide ((i : Int) < m.length) = true := by simp; omega
      have d5' : decide (i < m.length) = true := by simpa using hlt
      obtain ⟨p, hp⟩ : ∃ p, m[i]? = some p := ⟨_, List.getElem?_eq_getElem hlt⟩
      obtain ⟨b, off, rfl, hb, -, hc0, hc1⟩ := HG.out i p hp
      have HP := hide hp
      clear hp
      by_cases hxk : p.1 = k
      · have e1 : ((strOf p.1).toList == (strOf k).toList) = true := by rw [strOf_eq, decide_eq_true hxk]
        have HK := hide hxk
        clear hxk
        go_wp2_with fail
        go_ret
        refine ⟨⟨_, rfl, .inr ⟨i, p.2, rfl, ?_, find_first HP.out HK.out HALL.out⟩⟩, rfl⟩
        rw [HP.out, ← HK.out]
      · have e1 : ((strOf p.1).toList == (strOf k).toList) = false := by rw [strOf_eq, decide_eq_false hxk]
        have HXK := hide hxk
        clear hxk
        go_wp2_with fail
        go_round
        case rel => exact ⟨i + 1, by omega, by go_num, fun j y hj hy => by
          rcases Nat.lt_or_ge j i with h | h
          · exact HALL.out j y h hy
          · rw [show j = i by omega, HP.out] at hy
            cases hy
            exact HXK.out⟩
        case measure => simp [RowKit.intOf]; omega
    · have d5 : decide ((i : Int) < m.length) = false := by simp; omega
      have d5' : decide (i < m.length) = false := by simpa using hlt
      have HM := hide (show mfind m k = none from mfind_none fun p hp e => by
        obtain ⟨j, hj⟩ := List.mem_iff_getElem?.1 hp
        have := (List.getElem?_eq_some_iff.1 hj).1
        exact HALL.out j p (by omega) hj e)
      clear hlt
      go_wp2_with fail
      go_ret
      exact ⟨⟨_, rfl, .inl ⟨rfl, HM.out⟩⟩, rfl⟩
theorem run_add_str {a b : List UInt8} (h : a.length + b.length ≤ 1000000000) (w : World) : (binOp .add 9 (.string (strOf a)) (.string (strOf b))).run Tryz.prog w = .ok (.string (strOf (a ++ b))) w := by
  have hz : (strOf a ++ strOf b).size = a.length + b.length := by rw [strOf_append, strOf_size, List.length_append]
  rw [binOp_string_add]
  unfold Op.stringOp
  simp only [go_sem]
  rw [← strOf_append, if_neg (by rw [strOf_size, strOf_size, show IntKind.i64.max = 9223372036854775807 by rfl]; omega)]
  rfl
theorem dec_len20 {n : Nat} (h : n < 18446744073709551616) : (decDigits n).length ≤ 20 := by
  rw [decDigits_length]
  by_cases h0 : n = 0
  · subst h0; rw [nDigits_small (by omega)]; omega
  · have := (numDigits_eq n (by omega) h)
    have h1 := this.1
    have h2 := this.2
    split at h1 <;> omega
set_option maxRecDepth 100000 in
set_option maxHeartbeats 2000000 in
theorem digits_any (n : Nat) (hn : n < 18446744073709551616) : ∀ w : World,
    Calls Tryz.prog 79 #[.int .u64 (n : Int)] w fun e w' => e = .returned (.string (strOf (decDigits n))) ∧ Upd [] w w' := by
  induction n using Nat.strongRecOn with
  | _ n ih =>
    intro w
    by_cases h : n < 10
    · have hd : decide ((n : Int) < 10) = true := by simp; omega
      obtain ⟨c, hc⟩ : ∃ c : UInt8, UInt8.ofNat (48 + n) = c := ⟨_, rfl⟩
      have e8 : c.toNat = 48 + n := by rw [← hc, UInt8.toNat_ofNat_of_lt' (by show 48 + n < 256; omega)]
      have hdd := hide (show decDigits n = [c] by rw [← hc]; exact decDigits_one h)
      clear hc
      have e1 : IntKind.u8.wrap ((48 : Int) + (n : Int)) = (48 : Int) + (n : Int) := IntWalk.u8_in _ (by omega)
      have e2 : IntKind.u64.wrap ((48 : Int) + (n : Int)) = (48 : Int) + (n : Int) := IntWalk.u64_in _ (by omega)
      have hs : ∀ (w1 : World), w1.heap[w.heap.size]? = some (.cells #[.int .u8 ((48 : Int) + (n : Int))] 5 (0, 0)) → (convert 38 9 (.slice (some ⟨w.heap.size, 0, none⟩) 1 1)).run Tryz.prog w1 = .ok (.string (strOf [c])) w1 := fun w1 hb =>
        run_str (bs := [c]) (by
          rw [show [c].map u8v = [.int .u8 ((48 : Int) + (n : Int))] by simp only [List.map_cons, List.map_nil, u8v, e8, Int.natCast_add]; rfl]
          exact srcB_blk (n := 1) (z := 1) (cs := [.int .u8 ((48 : Int) + (n : Int))]) hb rfl (by simp [Value.oneCell']))
      have hs1 := hs _ (blk_new w (.cells #[.int .u8 ((48 : Int) + (n : Int))] 5))
      clear ih
      go_enter Tryz.func79, Tryz.ntmps79
      go_wp2_with fail
      go_ret
      rw [hdd.out]
      exact ⟨rfl, (Upd.refl _ _).alloc _⟩
    · have hd : decide ((n : Int) < 10) = false := by simp; omega
      obtain ⟨q, hq⟩ : ∃ q, n / 10 = q := ⟨_, rfl⟩
      obtain ⟨r, hr⟩ : ∃ r, n % 10 = r := ⟨_, rfl⟩
      have hrl : r < 10 := by omega
      obtain ⟨c, hc⟩ : ∃ c : UInt8, UInt8.ofNat (48 + r) = c := ⟨_, rfl⟩
      have e8 : c.toNat = 48 + r := by rw [← hc, UInt8.toNat_ofNat_of_lt' (by show 48 + r < 256; omega)]
      have hdd : decDigits n = decDigits q ++ [c] := by rw [decDigits, dif_neg h, hq, hr, hc]
      have q1 : (n : Int) / 10 = (q : Int) := by omega
      have q2 : (n : Int).tmod 10 = (r : Int) := by rw [Int.tmod_eq_emod_of_nonneg (by omega)]; omega
      have q3 : IntKind.u64.wrap (q : Int) = (q : Int) := IntWalk.u64_in _ (by omega)
      have e1 : IntKind.u8.wrap ((48 : Int) + (r : Int)) = (48 : Int) + (r : Int) := IntWalk.u8_in _ (by omega)
      have e2 : IntKind.u64.wrap ((48 : Int) + (r : Int)) = (48 : Int) + (r : Int) := IntWalk.u64_in _ (by omega)
      have IH := hide (ih q (by omega) (by omega))
      have hl20 := dec_len20 (n := q) (by omega)
      have hlt : (9223372036854775807 < (strOf (decDigits q)).size + (strOf [c]).size) = False := by simp only [eq_iff_iff, iff_false, strOf_size, List.length_cons, List.length_nil]; omega
      have hcat : strOf (decDigits q) ++ strOf [c] = strOf (decDigits n) := by rw [strOf_append, hdd]
      have hs : ∀ (B : Nat) (w1 : World), w1.heap[B]? = some (.cells #[.int .u8 ((48 : Int) + (r : Int))] 5 (0, 0)) → (convert 38 9 (.slice (some ⟨B, 0, none⟩) 1 1)).run Tryz.prog w1 = .ok (.string (strOf [c])) w1 := fun B w1 hb =>
        run_str (bs := [c]) (by
          rw [show [c].map u8v = [.int .u8 ((48 : Int) + (r : Int))] by simp only [List.map_cons, List.map_nil, u8v, e8, Int.natCast_add]; rfl]
          exact srcB_blk (n := 1) (z := 1) (cs := [.int .u8 ((48 : Int) + (r : Int))]) hb rfl (by simp [Value.oneCell']))
      have HLT := hide hlt; have HCAT := hide hcat; have HSTR := hide hs; have HDD := hide hdd
      clear ih hq hr hlt hcat hs hdd hc
      go_enter Tryz.func79, Tryz.ntmps79
      go_upto_region 3 with fail
      have s0 : Upd [] w (w.drewN 1) := (Upd.refl [] w).drewN 1
      refine wp_region_z (fun wx => Upd [] w wx) 99 (by kernel_rfl) ?_
      refine wpAnyZ_takeE 0 rfl (by kernel_rfl) (by kernel_rfl) (by kernel_rfl) (by kernel_rfl) (fun _ _ _ _ h => h) rfl (by exact s0) ?_
      apply Exists.intro
      refine ⟨fun wx hS => ?_, ?_⟩
      · go_simp; rfl
      simp only [Act.put, List.setIfInBounds_toArray, List.set_cons_succ, List.set_cons_zero, List.getElem_toArray, List.getElem_cons_zero]
      refine wpAnyZ_takeE 1 rfl (by kernel_rfl) (by kernel_rfl) (by kernel_rfl) (by kernel_rfl) (fun _ _ _ _ h => h) rfl (by exact s0) ?_
      apply Exists.intro
      refine ⟨fun wx hS => ?_, ?_⟩
      · go_simp; rfl
      simp only [Act.put, List.setIfInBounds_toArray, List.set_cons_succ, List.set_cons_zero, List.getElem_toArray, List.getElem_cons_succ, List.getElem_cons_zero]
      refine wpAnyZ_takeE 3 rfl (by kernel_rfl) (by kernel_rfl) (by kernel_rfl) (by kernel_rfl) (fun _ _ _ _ h => h) rfl (by exact s0) ?_
      apply Exists.intro
      refine ⟨fun wx hS => ?_, ?_⟩
      · go_simp; rfl
      simp only [Act.put, List.setIfInBounds_toArray, List.set_cons_succ, List.set_cons_zero, List.getElem_toArray, List.getElem_cons_succ, List.getElem_cons_zero]
      refine wpAnyZ_takeE 4 rfl (by kernel_rfl) (by kernel_rfl) (by kernel_rfl) (by kernel_rfl) (fun _ _ _ _ h => h) rfl (by exact s0) ?_
      apply Exists.intro
      refine ⟨fun wx hS => ?_, ?_⟩
      · go_simp; rfl
      simp only [Act.put, List.setIfInBounds_toArray, List.set_cons_succ, List.set_cons_zero, List.getElem_toArray, List.getElem_cons_succ, List.getElem_cons_zero]
      refine wpAnyZ_takeE 5 rfl (by kernel_rfl) (by kernel_rfl) (by kernel_rfl) (by kernel_rfl) (fun _ _ _ _ h => h) rfl (by exact s0) ?_
      apply Exists.intro
      refine ⟨fun wx hS => ?_, ?_⟩
      · go_simp; rfl
      simp only [Act.put, List.setIfInBounds_toArray, List.set_cons_succ, List.set_cons_zero, List.getElem_toArray, List.getElem_cons_succ, List.getElem_cons_zero]
      refine wpAnyZ_takeE 6 rfl (by kernel_rfl) (by kernel_rfl) (by kernel_rfl) (by kernel_rfl) (fun _ _ _ _ h => h) rfl (by exact s0) ?_
      apply Exists.intro
      refine ⟨fun wx hS => ?_, ?_⟩
      · go_simp; rfl
      simp only [Act.put, List.setIfInBounds_toArray, List.set_cons_succ, List.set_cons_zero, List.getElem_toArray, List.getElem_cons_succ, List.getElem_cons_zero]
      refine wpAnyZ_two 2 7 (by kernel_rfl) rfl rfl rfl rfl (fun K hK => ?_) (fun K hK => ?_)
      · try simp only [List.getElem_toArray, List.getElem_cons_succ, List.getElem_cons_zero]
        go_simp
        refine (IH.out _).mono ?_
        rintro e w1 ⟨rfl, hu1⟩
        have s1 := s0.trans hu1
        refine hK _ _ (.inr s1) ?_
        clear hK K
        try simp only [Act.put, List.setIfInBounds_toArray, List.set_cons_succ, List.set_cons_zero]
        clear s0
        refine wpAnyZ_one 7 (by kernel_rfl) rfl rfl (fun K hK => ?_)
        try simp only [List.getElem_toArray, List.getElem_cons_succ, List.getElem_cons_zero]
        go_simp
        have hB := blk_new w1 (.cells #[.int .u8 ((48 : Int) + (r : Int))] 5)
        have s2 := s1.alloc (.cells #[.int .u8 ((48 : Int) + (r : Int))] 5)
        refine hK _ _ (.inr s2) ?_
        clear hK K
        try simp only [Act.put, List.setIfInBounds_toArray, List.set_cons_succ, List.set_cons_zero]
        generalize w1.alloc (.cells #[.int .u8 ((48 : Int) + (r : Int))] 5) = w2 at *
        refine wpAnyZ_strong (S' := fun wx => Upd [] w2 wx) (fun wx h => s2.trans h) _ _ _ _ ?_
        have s3 : Upd [] w2 w2 := Upd.refl _ _
        have HB := hide hB
        clear hB
        refine wpAnyZ_takeE 8 rfl (by kernel_rfl) (by kernel_rfl) (by kernel_rfl) (by kernel_rfl) (fun _ _ _ _ h => h) rfl (by exact s3) ?_
        apply Exists.intro
        refine ⟨fun wx hS => ?_, ?_⟩
        · have hq := HSTR.out _ _ (hS.get HB.out (by simp)); go_simp; rfl
        simp only [Act.put, List.setIfInBounds_toArray, List.set_cons_succ, List.set_cons_zero, List.getElem_toArray, List.getElem_cons_succ, List.getElem_cons_zero]
        refine wpAnyZ_takeE 9 rfl (by kernel_rfl) (by kernel_rfl) (by kernel_rfl) (by kernel_rfl) (fun _ _ _ _ h => h) rfl (by exact s3) ?_
        apply Exists.intro
        refine ⟨fun wx hS => ?_, ?_⟩
        · have hq := HLT.out ; have hq2 := HCAT.out; go_simp; rfl
        simp only [Act.put, List.setIfInBounds_toArray, List.set_cons_succ, List.set_cons_zero, List.getElem_toArray, List.getElem_cons_succ, List.getElem_cons_zero]
        refine wpAnyZ_takeE 10 rfl (by kernel_rfl) (by kernel_rfl) (by kernel_rfl) (by kernel_rfl) (fun _ _ _ _ h => h) rfl (by exact s3) ?_
        apply Exists.intro
        refine ⟨fun wx hS => ?_, ?_⟩
        · go_simp; rfl
        simp only [Act.put, List.setIfInBounds_toArray, List.set_cons_succ, List.set_cons_zero, List.getElem_toArray, List.getElem_cons_succ, List.getElem_cons_zero]
        refine wpAnyZ_done (by kernel_rfl) ?_ _
        have S2 := hide s2
        clear s2 s3 s1 hu1
        go_wp2_with fail
        go_ret
        exact ⟨rfl, S2.out⟩
      · try simp only [List.getElem_toArray, List.getElem_cons_succ, List.getElem_cons_zero]
        go_simp
        have hB := blk_new (w.drewN 1) (.cells #[.int .u8 ((48 : Int) + (r : Int))] 5)
        have s2 := s0.alloc (.cells #[.int .u8 ((48 : Int) + (r : Int))] 5)
        refine hK _ _ (.inr s2) ?_
        clear hK K
        try simp only [Act.put, List.setIfInBounds_toArray, List.set_cons_succ, List.set_cons_zero]
        generalize (w.drewN 1).alloc (.cells #[.int .u8 ((48 : Int) + (r : Int))] 5) = w2 at *
        refine wpAnyZ_strong (S' := fun wx => Upd [] w2 wx) (fun wx h => s2.trans h) _ _ _ _ ?_
        have s3 : Upd [] w2 w2 := Upd.refl _ _
        have HB := hide hB
        clear hB s0
        refine wpAnyZ_takeE 8 rfl (by kernel_rfl) (by kernel_rfl) (by kernel_rfl) (by kernel_rfl) (fun _ _ _ _ h => h) rfl (by exact s3) ?_
        apply Exists.intro
        refine ⟨fun wx hS => ?_, ?_⟩
        · have hq := HSTR.out w.heap.size _ (hS.get HB.out (by simp)); go_simp; rfl
        simp only [Act.put, List.setIfInBounds_toArray, List.set_cons_succ, List.set_cons_zero, List.getElem_toArray, List.getElem_cons_succ, List.getElem_cons_zero]
        refine wpAnyZ_one 2 (by kernel_rfl) rfl rfl (fun K hK => ?_)
        try simp only [List.getElem_toArray, List.getElem_cons_succ, List.getElem_cons_zero]
        go_simp
        refine (IH.out _).mono ?_
        rintro e w3 ⟨rfl, hu3⟩
        refine hK _ _ (.inr hu3) ?_
        clear hK K
        try simp only [Act.put, List.setIfInBounds_toArray, List.set_cons_succ, List.set_cons_zero]
        refine wpAnyZ_takeE 9 rfl (by kernel_rfl) (by kernel_rfl) (by kernel_rfl) (by kernel_rfl) (fun _ _ _ _ h => h) rfl (by exact hu3) ?_
        apply Exists.intro
        refine ⟨fun wx hS => ?_, ?_⟩
        · have hq := HLT.out ; have hq2 := HCAT.out; go_simp; rfl
        simp only [Act.put, List.setIfInBounds_toArray, List.set_cons_succ, List.set_cons_zero, List.getElem_toArray, List.getElem_cons_succ, List.getElem_cons_zero]
        refine wpAnyZ_takeE 10 rfl (by kernel_rfl) (by kernel_rfl) (by kernel_rfl) (by kernel_rfl) (fun _ _ _ _ h => h) rfl (by exact hu3) ?_
        apply Exists.intro
        refine ⟨fun wx hS => ?_, ?_⟩
        · go_simp; rfl
        simp only [Act.put, List.setIfInBounds_toArray, List.set_cons_succ, List.set_cons_zero, List.getElem_toArray, List.getElem_cons_succ, List.getElem_cons_zero]
        refine wpAnyZ_done (by kernel_rfl) ?_ _
        have S2 := hide (s2.trans hu3)
        clear s2 s3 hu3
        go_wp2_with fail
        go_ret
        exact ⟨rfl, S2.out⟩
end Go.Proofs.YtcjflnnjieolfaaGreatDoor.Kv
