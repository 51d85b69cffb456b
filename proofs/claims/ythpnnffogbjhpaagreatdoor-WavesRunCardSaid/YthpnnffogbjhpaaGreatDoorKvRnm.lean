/- KvRn, KvRm in one text. -/
import Derived.Test.YthpnnffogbjhpaaGreatDoorKvRq
import Derived.Test.YthpnnffogbjhpaaGreatDoorKvGH
import Derived.Test.YthpnnffogbjhpaaGreatDoorKvPure
set_option linter.unusedSimpArgs false
set_option linter.unusedVariables false
set_option linter.unnecessarySimpa false
namespace Go.Proofs.YthpnnffogbjhpaaGreatDoor.Kv
set_option linter.unusedSimpArgs false
set_option linter.unusedVariables false
set_option linter.unnecessarySimpa false
open Go.RowKit Go.Lib Go.Proofs.YthpnnffogbjhpaaGreatDoor.Crc Go.Proofs.YthpnnffogbjhpaaGreatDoor.Cm

def FindIs (m : KM) (k : List UInt8) (i : Int) : Prop := (i = -1 ∧ mfind m k = none) ∨ ∃ (j : Nat) (v : List UInt8), i = (j : Int) ∧ m[j]? = some (k, v) ∧ mfind m k = some v
theorem find_first {m : KM} {k : List UInt8} {j : Nat} {p : List UInt8 × List UInt8} (hp : m[j]? = some p) (hk : p.1 = k) (h : ∀ i q, i < j → m[i]? = some q → q.1 ≠ k) : mfind m k = some p.2 := by
  induction m generalizing j with
  | nil => simp at hp
  | cons a t ih =>
    rw [mfind_cons]
    cases j with
    | zero => simp at hp; subst hp; rw [if_pos hk]
    | succ j =>
      rw [if_neg (h 0 a (by omega) rfl)]
      exact ih (by simpa using hp) fun i q hi hq => h (i + 1) q (by omega) (by simpa using hq)
set_option maxRecDepth 100000 in
set_option maxHeartbeats 1000000 in
theorem find_any {T : Nat → Prop} {v : Value} {m : KM} {k : List UInt8} (w : World) (h : pairK.row w T v m) :
    Calls Tryz.prog 70 #[v, .string (strOf k)] w fun e w' => (∃ i, e = .returned (.int .i64 i) ∧ FindIs m k i) ∧ w = w' := by
  obtain ⟨xo, cp, rfl, h1, h2, hget⟩ := pair_get h
  simp only [maxLen] at h2
  have HG := hide hget
  clear h hget
  go_enter Tryz.func70, Tryz.ntmps70
  go_wp2_with fail
  go_loop [5] (fun si => ∃ i : Nat, i ≤ m.length ∧ si = .int .i64 i ∧ ∀ j p, j < i → m[j]? = some p → p.1 ≠ k) (fun si => m.length - (RowKit.intOf si).toNat)
  case atStart => exact ⟨0, by omega, rfl, by omega⟩
  case round =>
    obtain ⟨i, hi, rfl, hall⟩ := hrel
    have HALL := hide hall
    clear hall
    by_cases hlt : i < m.length
    · have d5 : decide ((i : Int) < m.length) = true := by simp; omega
      have d5' : decide (i < m.length) = true := by simpa using hlt
      obtain ⟨p, hp⟩ : ∃ p, m[i]? = some p := ⟨_, List.getElem?_eq_getElem hlt⟩
      obtain ⟨b, off, rfl, hb, -, hc0, hc1⟩ := HG.out i p hp
      have HP := hide hp
      clear hp
      by_cases hxk : p.1 = k
      · have e1 : ((strOf p.1).toList == (strOf k).toList) = true := by rw [strOf_eq, decide_eq_true hxk]
        have HK := hide hxk
        clear hxk
        go_wp2_with fail
        go_ret
        refine ⟨⟨_, rfl, .inr ⟨i, p.2, rfl, ?_, find_first HP.out HK.out HALL.out⟩⟩, rfl⟩
        rw [HP.out, ← HK.out]
      · have e1 : ((strOf p.1).toList == (strOf k).toList) = false := by rw [strOf_eq, decide_eq_false hxk]
        have HXK := hide hxk
        clear hxk
        go_wp2_with fail
        go_round
        case rel => exact ⟨i + 1, by omega, by go_num, fun j y hj hy => by
          rcases Nat.lt_or_ge j i with h | h
          · exact HALL.out j y h hy
          · rw [show j = i by omega, HP.out] at hy
            cases hy
            exact HXK.out⟩
        case measure => simp [RowKit.intOf]; omega
    · have d5 : decide ((i : Int) < m.length) = false := by simp; omega
      have d5' : decide (i < m.length) = false := by simpa using hlt
      have HM := hide (show mfind m k = none from mfind_none fun p hp e => by
        obtain ⟨j, hj⟩ := List.mem_iff_getElem?.1 hp
        have := (List.getElem?_eq_some_iff.1 hj).1
        exact HALL.out j p (by omega) hj e)
      clear hlt
      go_wp2_with fail
      go_ret
      exact ⟨⟨_, rfl, .inl ⟨rfl, HM.out⟩⟩, rfl⟩
theorem dec_len20 {n : Nat} (h : n < 18446744073709551616) : (decDigits n).length ≤ 20 := by
  rw [decDigits_length]
  by_cases h0 : n = 0
  · subst h0; rw [nDigits_small (by omega)]; omega
  · have := (numDigits_eq n (by omega) h)
    have h1 := this.1
    have h2 := this.2
    split at h1 <;> omega
set_option maxRecDepth 100000 in
set_option maxHeartbeats 2000000 in
theorem digits_any (n : Nat) (hn : n < 18446744073709551616) : ∀ w : World,
    Calls Tryz.prog 100 #[.int .u64 (n : Int)] w fun e w' => e = .returned (.string (strOf (decDigits n))) ∧ Upd [] w w' := by
  induction n using Nat.strongRecOn with
  | _ n ih =>
    intro w
    by_cases h : n < 10
    · have hd : decide ((n : Int) < 10) = true := by simp; omega
      obtain ⟨c, hc⟩ : ∃ c : UInt8, UInt8.ofNat (48 + n) = c := ⟨_, rfl⟩
      have e8 : c.toNat = 48 + n := by rw [← hc, UInt8.toNat_ofNat_of_lt' (by show 48 + n < 256; omega)]
      have hdd := hide (show decDigits n = [c] by rw [← hc]; exact decDigits_one h)
      clear hc
      have e1 : IntKind.u8.wrap ((48 : Int) + (n : Int)) = (48 : Int) + (n : Int) := IntWalk.u8_in _ (by omega)
      have e2 : IntKind.u64.wrap ((48 : Int) + (n : Int)) = (48 : Int) + (n : Int) := IntWalk.u64_in _ (by omega)
      have hs : ∀ (w1 : World), w1.heap[w.heap.size]? = some (.cells #[.int .u8 ((48 : Int) + (n : Int))] 5 (0, 0)) → (convert 22 9 (.slice (some ⟨w.heap.size, 0, none⟩) 1 1)).run Tryz.prog w1 = .ok (.string (strOf [c])) w1 := fun w1 hb =>
        run_str (bs := [c]) (by
          rw [show [c].map u8v = [.int .u8 ((48 : Int) + (n : Int))] by simp only [List.map_cons, List.map_nil, u8v, e8, Int.natCast_add]; rfl]
          exact srcB_blk (n := 1) (z := 1) (cs := [.int .u8 ((48 : Int) + (n : Int))]) hb rfl (by simp [Value.oneCell']))
      have hs1 := hs _ (blk_new w (.cells #[.int .u8 ((48 : Int) + (n : Int))] 5))
      clear ih
      go_enter Tryz.func100, Tryz.ntmps100
      go_wp2_with fail
      go_ret
      rw [hdd.out]
      exact ⟨rfl, (Upd.refl _ _).alloc _⟩
    · have hd : decide ((n : Int) < 10) = false := by simp; omega
      obtain ⟨q, hq⟩ : ∃ q, n / 10 = q := ⟨_, rfl⟩
      obtain ⟨r, hr⟩ : ∃ r, n % 10 = r := ⟨_, rfl⟩
      have hrl : r < 10 := by omega
      obtain ⟨c, hc⟩ : ∃ c : UInt8, UInt8.ofNat (48 + r) = c := ⟨_, rfl⟩
      have e8 : c.toNat = 48 + r := by rw [← hc, UInt8.toNat_ofNat_of_lt' (by show 48 + r < 256; omega)]
      have hdd : decDigits n = decDigits q ++ [c] := by rw [decDigits, dif_neg h, hq, hr, hc]
      have q1 : (n : Int) / 10 = (q : Int) := by omega
      have q2 : (n : Int).tmod 10 = (r : Int) := by rw [Int.tmod_eq_emod_of_nonneg (by omega)]; omega
      have q3 : IntKind.u64.wrap (q : Int) = (q : Int) := IntWalk.u64_in _ (by omega)
      have e1 : IntKind.u8.wrap ((48 : Int) + (r : Int)) = (48 : Int) + (r : Int) := IntWalk.u8_in _ (by omega)
      have e2 : IntKind.u64.wrap ((48 : Int) + (r : Int)) = (48 : Int) + (r : Int) := IntWalk.u64_in _ (by omega)
      have IH := hide (ih q (by omega) (by omega))
      have hl20 := dec_len20 (n := q) (by omega)
      have hlt : (9223372036854775807 < (strOf (decDigits q)).size + (strOf [c]).size) = False := by simp only [eq_iff_iff, iff_false, strOf_size, List.length_cons, List.length_nil]; omega
      have hcat : strOf (decDigits q) ++ strOf [c] = strOf (decDigits n) := by rw [strOf_append, hdd]
      have hs : ∀ (B : Nat) (w1 : World), w1.heap[B]? = some (.cells #[.int .u8 ((48 : Int) + (r : Int))] 5 (0, 0)) → (convert 22 9 (.slice (some ⟨B, 0, none⟩) 1 1)).run Tryz.prog w1 = .ok (.string (strOf [c])) w1 := fun B w1 hb =>
        run_str (bs := [c]) (by
          rw [show [c].map u8v = [.int .u8 ((48 : Int) + (r : Int))] by simp only [List.map_cons, List.map_nil, u8v, e8, Int.natCast_add]; rfl]
          exact srcB_blk (n := 1) (z := 1) (cs := [.int .u8 ((48 : Int) + (r : Int))]) hb rfl (by simp [Value.oneCell']))
      have HLT := hide hlt; have HCAT := hide hcat; have HSTR := hide hs; have HDD := hide hdd
      clear ih hq hr hlt hcat hs hdd hc
      go_enter Tryz.func100, Tryz.ntmps100
      go_upto_region 3 with fail
      have s0 : Upd [] w (w.drewN 1) := (Upd.refl [] w).drewN 1
      refine wp_region_z (fun wx => Upd [] w wx) 99 (by kernel_rfl) ?_
      refine zE 0 rfl (by kernel_rfl) (fun _ _ _ _ h => h) rfl (by exact s0) ?_
      apply Exists.intro
      refine ⟨fun wx hS => ?_, ?_⟩
      · go_simp; rfl
      simp only [Act.put, List.setIfInBounds_toArray, List.set_cons_succ, List.set_cons_zero, List.getElem_toArray, List.getElem_cons_zero]
      refine zE 1 rfl (by kernel_rfl) (fun _ _ _ _ h => h) rfl (by exact s0) ?_
      apply Exists.intro
      refine ⟨fun wx hS => ?_, ?_⟩
      · go_simp; rfl
      simp only [Act.put, zz1, zz2, zz3, zz4, zz5, zz6]
      refine zE 3 rfl (by kernel_rfl) (fun _ _ _ _ h => h) rfl (by exact s0) ?_
      apply Exists.intro
      refine ⟨fun wx hS => ?_, ?_⟩
      · go_simp; rfl
      simp only [Act.put, zz1, zz2, zz3, zz4, zz5, zz6]
      refine zE 4 rfl (by kernel_rfl) (fun _ _ _ _ h => h) rfl (by exact s0) ?_
      apply Exists.intro
      refine ⟨fun wx hS => ?_, ?_⟩
      · go_simp; rfl
      simp only [Act.put, zz1, zz2, zz3, zz4, zz5, zz6]
      refine zE 5 rfl (by kernel_rfl) (fun _ _ _ _ h => h) rfl (by exact s0) ?_
      apply Exists.intro
      refine ⟨fun wx hS => ?_, ?_⟩
      · go_simp; rfl
      simp only [Act.put, zz1, zz2, zz3, zz4, zz5, zz6]
      refine zE 6 rfl (by kernel_rfl) (fun _ _ _ _ h => h) rfl (by exact s0) ?_
      apply Exists.intro
      refine ⟨fun wx hS => ?_, ?_⟩
      · go_simp; rfl
      simp only [Act.put, zz1, zz2, zz3, zz4, zz5, zz6]
      refine wpAnyZ_two 2 7 (by kernel_rfl) rfl rfl rfl rfl (fun K hK => ?_) (fun K hK => ?_)
      · try simp only [List.getElem_toArray, List.getElem_cons_succ, List.getElem_cons_zero]
        go_simp
        refine (IH.out _).mono ?_
        rintro e w1 ⟨rfl, hu1⟩
        have s1 := s0.trans hu1
        refine hK _ _ (.inr s1) ?_
        clear hK K
        try simp only [Act.put, zz1, zz2, zz3]
        clear s0
        refine wpAnyZ_one 7 (by kernel_rfl) rfl rfl (fun K hK => ?_)
        try simp only [List.getElem_toArray, List.getElem_cons_succ, List.getElem_cons_zero]
        go_simp
        have hB := blk_new w1 (.cells #[.int .u8 ((48 : Int) + (r : Int))] 5)
        have s2 := s1.alloc (.cells #[.int .u8 ((48 : Int) + (r : Int))] 5)
        refine hK _ _ (.inr s2) ?_
        clear hK K
        try simp only [Act.put, zz1, zz2, zz3]
        generalize w1.alloc (.cells #[.int .u8 ((48 : Int) + (r : Int))] 5) = w2 at *
        refine wpAnyZ_strong (S' := fun wx => Upd [] w2 wx) (fun wx h => s2.trans h) _ _ _ _ ?_
        have s3 : Upd [] w2 w2 := Upd.refl _ _
        have HB := hide hB
        clear hB
        refine zE 8 rfl (by kernel_rfl) (fun _ _ _ _ h => h) rfl (by exact s3) ?_
        apply Exists.intro
        refine ⟨fun wx hS => ?_, ?_⟩
        · have hq := HSTR.out _ _ (hS.get HB.out (by simp)); go_simp; rfl
        simp only [Act.put, zz1, zz2, zz3, zz4, zz5, zz6]
        refine zE 9 rfl (by kernel_rfl) (fun _ _ _ _ h => h) rfl (by exact s3) ?_
        apply Exists.intro
        refine ⟨fun wx hS => ?_, ?_⟩
        · have hq := HLT.out ; have hq2 := HCAT.out; go_simp; rfl
        simp only [Act.put, zz1, zz2, zz3, zz4, zz5, zz6]
        refine zE 10 rfl (by kernel_rfl) (fun _ _ _ _ h => h) rfl (by exact s3) ?_
        apply Exists.intro
        refine ⟨fun wx hS => ?_, ?_⟩
        · go_simp; rfl
        simp only [Act.put, zz1, zz2, zz3, zz4, zz5, zz6]
        refine wpAnyZ_done (by kernel_rfl) ?_ _
        have S2 := hide s2
        clear s2 s3 s1 hu1
        go_wp2_with fail
        go_ret
        exact ⟨rfl, S2.out⟩
      · try simp only [List.getElem_toArray, List.getElem_cons_succ, List.getElem_cons_zero]
        go_simp
        have hB := blk_new (w.drewN 1) (.cells #[.int .u8 ((48 : Int) + (r : Int))] 5)
        have s2 := s0.alloc (.cells #[.int .u8 ((48 : Int) + (r : Int))] 5)
        refine hK _ _ (.inr s2) ?_
        clear hK K
        try simp only [Act.put, zz1, zz2, zz3]
        generalize (w.drewN 1).alloc (.cells #[.int .u8 ((48 : Int) + (r : Int))] 5) = w2 at *
        refine wpAnyZ_strong (S' := fun wx => Upd [] w2 wx) (fun wx h => s2.trans h) _ _ _ _ ?_
        have s3 : Upd [] w2 w2 := Upd.refl _ _
        have HB := hide hB
        clear hB s0
        refine zE 8 rfl (by kernel_rfl) (fun _ _ _ _ h => h) rfl (by exact s3) ?_
        apply Exists.intro
        refine ⟨fun wx hS => ?_, ?_⟩
        · have hq := HSTR.out w.heap.size _ (hS.get HB.out (by simp)); go_simp; rfl
        simp only [Act.put, zz1, zz2, zz3, zz4, zz5, zz6]
        refine wpAnyZ_one 2 (by kernel_rfl) rfl rfl (fun K hK => ?_)
        try simp only [List.getElem_toArray, List.getElem_cons_succ, List.getElem_cons_zero]
        go_simp
        refine (IH.out _).mono ?_
        rintro e w3 ⟨rfl, hu3⟩
        refine hK _ _ (.inr hu3) ?_
        clear hK K
        try simp only [Act.put, zz1, zz2, zz3]
        refine zE 9 rfl (by kernel_rfl) (fun _ _ _ _ h => h) rfl (by exact hu3) ?_
        apply Exists.intro
        refine ⟨fun wx hS => ?_, ?_⟩
        · have hq := HLT.out ; have hq2 := HCAT.out; go_simp; rfl
        simp only [Act.put, zz1, zz2, zz3, zz4, zz5, zz6]
        refine zE 10 rfl (by kernel_rfl) (fun _ _ _ _ h => h) rfl (by exact hu3) ?_
        apply Exists.intro
        refine ⟨fun wx hS => ?_, ?_⟩
        · go_simp; rfl
        simp only [Act.put, zz1, zz2, zz3, zz4, zz5, zz6]
        refine wpAnyZ_done (by kernel_rfl) ?_ _
        have S2 := hide (s2.trans hu3)
        clear s2 s3 hu3
        go_wp2_with fail
        go_ret
        exact ⟨rfl, S2.out⟩
end Go.Proofs.YthpnnffogbjhpaaGreatDoor.Kv
namespace Go.Proofs.YthpnnffogbjhpaaGreatDoor.Kv
set_option linter.unusedSimpArgs false
set_option linter.unusedVariables false
set_option linter.unnecessarySimpa false
open Go.RowKit Go.Lib Go.Proofs.YthpnnffogbjhpaaGreatDoor.Crc Go.Proofs.YthpnnffogbjhpaaGreatDoor.Cm

set_option maxRecDepth 100000 in
theorem decimal_any {n : Int} (hn : fits n = true) (w : World) : Calls Tryz.prog 75 #[.int .i64 n] w fun e w' => e = .returned (.string (strOf (itoa n))) ∧ Upd [] w w' := by
  simp only [fits, Bool.and_eq_true, decide_eq_true_eq] at hn
  by_cases h : n < 0
  · have hd : decide (n < 0) = true := by simpa using h
    obtain ⟨u, rfl⟩ : ∃ u : Nat, n = -(u : Int) := ⟨n.natAbs, by omega⟩
    have e1 : IntKind.u64.wrap (-IntKind.u64.wrap (-(u : Int))) = (u : Int) := by rw [IntKind.wrap_u64, IntKind.wrap_u64]; omega
    have hl := dec_len20 (n := u) (by omega)
    have hlt : (9223372036854775807 < (⟨#[45]⟩ : ByteArray).size + (strOf (decDigits u)).size) = False := by simp only [eq_iff_iff, iff_false, strOf_size]; simp [ByteArray.size]; omega
    have hlt' : (9223372036854775807 < 1 + (strOf (decDigits u)).size) = False := hlt
    have hcat : (⟨#[45]⟩ : ByteArray) ++ strOf (decDigits u) = strOf (45 :: decDigits u) := strOf_append [45] (decDigits u)
    have HLT := hide hlt; have HLT' := hide hlt'; have HCAT := hide hcat
    have hI := hide (itoa_neg u (by omega))
    clear hlt hlt' hcat
    go_enter Tryz.func75, Tryz.ntmps75
    go_wp2_with fail
    refine (digits_any u (by omega) w).mono ?_
    rintro e w1 ⟨rfl, hu⟩
    have hlt := HLT.out; have hlt' := HLT'.out; have hcat := HCAT.out
    have HU := hide hu
    clear hu
    go_wp2_with fail
    go_ret
    rw [hI.out]
    exact ⟨rfl, HU.out⟩
  · have hd : decide (n < 0) = false := by simpa using h
    obtain ⟨u, rfl⟩ : ∃ u : Nat, n = (u : Int) := ⟨n.toNat, by omega⟩
    have e1 : IntKind.u64.wrap (u : Int) = (u : Int) := IntWalk.u64_in _ (by omega)
    have hI := hide (itoa_nonneg u)
    go_enter Tryz.func75, Tryz.ntmps75
    go_wp2_with fail
    refine (digits_any u (by omega) w).mono ?_
    rintro e w1 ⟨rfl, hu⟩
    have HU := hide hu
    clear hu
    go_wp2_with fail
    go_ret
    rw [hI.out]
    exact ⟨rfl, HU.out⟩
def NumIs (s : List UInt8) (n : Int) (ok : Bool) : Prop := ok = (numM s).isSome ∧ (∀ m, numM s = some m → n = m) ∧ -9223372036854775808 ≤ n ∧ n ≤ 9223372036854775807
def NumSays (s : List UInt8) (e : Ending) : Prop := ∃ n ok, e = .returned (.tuple #[.int .i64 n, .bool ok]) ∧ NumIs s n ok
theorem num_bad {s : List UInt8} (h : badM s ∨ ∃ c ∈ digM s, ¬ isD c) : NumIs s 0 false := by
  have hn : numM s = none := by
    cases hx : numM s with
    | none => rfl
    | some n =>
      obtain ⟨hs, m, hm, rfl⟩ := numM_some hx
      obtain ⟨h1, h2, -⟩ := number_no hx (parse_bounds hm)
      rcases h with h | ⟨c, hc, hd⟩
      · exact absurd h h1
      · exact absurd (h2 c hc) hd
  exact ⟨by rw [hn]; rfl, fun m h => (by rw [hn] at h; cases h), by decide, by decide⟩
theorem val_take {d : List UInt8} {i : Nat} {c : UInt8} (h : d[i]? = some c) : valF 0 (d.take (i + 1)) = valF 0 (d.take i) * 10 + (c.toNat - 48) := by
  rw [List.take_add_one, h]
  exact valF_snoc _ _ _
theorem val_small {d : List UInt8} {i k : Nat} (hl : i ≤ k) (hall : ∀ c ∈ d.take i, isD c) : valF 0 (d.take i) < 10 ^ k := by
  have h1 := val_len (d.take i) 0 0 hall (by decide)
  have h2 : (d.take i).length ≤ k := by rw [List.length_take]; omega
  rw [Nat.zero_add] at h1
  have h3 : 10 ^ (d.take i).length ≤ 10 ^ k := Nat.pow_le_pow_right (by omega) h2
  omega
theorem get_str {s : List UInt8} {i : Nat} {c : UInt8} (h : s[i]? = some c) : ∀ hl, (strOf s)[i]'hl = c := by
  obtain ⟨hl, rfl⟩ := List.getElem?_eq_some_iff.1 h
  intro hl
  simp [strOf]
  rfl
theorem head_get (d : List UInt8) : d.head? = d[0]? := by cases d <;> rfl
set_option maxRecDepth 100000 in
set_option maxHeartbeats 8000000 in
theorem number_any {s : List UInt8} (w : World) (hs : s.length ≤ 1000000) :
    Calls Tryz.prog 99 #[.string (strOf s)] w fun e w' => NumSays s e ∧ w = w' := by
  have f0 : (strOf s).size = s.length := strOf_size s
  by_cases hsl : s.length = 0
  · have hse : s = [] := List.eq_nil_of_length_eq_zero hsl
    have HBAD := hide (show badM s by subst hse; exact .inl rfl)
    have q0 : (strOf s).toList.isEmpty = true := by rw [hse]; simp [strOf]
    have d0 : decide ((0 : Int) < (s.length : Int)) = false := by simp; omega
    have d0' : decide (0 < s.length) = false := by simp; omega
    clear hs hse hsl
    go_enter Tryz.func99, Tryz.ntmps99
    go_wp2_with fail
    go_ret2
    exact ⟨⟨_, _, rfl, num_bad (.inl HBAD.out)⟩, rfl⟩
  have d0 : decide ((0 : Int) < (s.length : Int)) = true := by simp; omega
  have d0' : decide (0 < s.length) = true := by simp; omega
  have hp : 0 < s.length := by omega
  obtain ⟨c, hc⟩ : ∃ c, s[0]? = some c := ⟨_, List.getElem?_eq_getElem (by omega)⟩
  have hcx := get_str hc
  by_cases h45 : c = 45
  · have q45 : ((c.toNat : Int) == 45) = true := by rw [h45]; rfl
    have HNEG := hide (show negM s = true by unfold negM; rw [head_get, hc, h45]; rfl)
    obtain ⟨d, hd⟩ : ∃ d, s.tail = d := ⟨_, rfl⟩
    have HDIG := hide (show digM s = d by unfold digM; rw [HNEG.out, if_pos rfl, hd])
    have hcut : (strOf s).extract 1 s.length = strOf d := by
      rw [← hd]
      cases s with
      | nil => cases hc
      | cons a t =>
        apply ByteArray.ext
        simp [strOf]
    clear hd hc h45 hsl
    go_enter Tryz.func99, Tryz.ntmps99
    by_cases he : d.length = 0
    · have hde : d = [] := List.eq_nil_of_length_eq_zero he
      have HBAD := hide (show badM s from .inl (by rw [HDIG.out, hde]))
      have q0 : (strOf d).toList.isEmpty = true := by rw [hde]; simp [strOf]
      clear he hde
      go_wp2_with fail
      go_ret2
      exact ⟨⟨_, _, rfl, num_bad (.inl HBAD.out)⟩, rfl⟩
    have q0 : (strOf d).toList.isEmpty = false := by
      cases hd : d with
      | nil => rw [hd] at he; exact absurd rfl he
      | cons a t => simp [strOf]
    have fd : (strOf d).size = d.length := strOf_size d
    obtain ⟨x, hx0⟩ : ∃ x, d[0]? = some x := ⟨_, List.getElem?_eq_getElem (by omega)⟩
    have hx1 := get_str hx0
    have hpd : 0 < d.length := by omega
    by_cases h19 : 19 < d.length
    · have HBAD := hide (show badM s from .inr (.inl (by rw [HDIG.out]; exact h19)))
      have d19 : decide ((19 : Int) < (d.length : Int)) = true := by simp; omega
      clear he hx0 h19
      go_wp2_with fail
      go_ret2
      exact ⟨⟨_, _, rfl, num_bad (.inl HBAD.out)⟩, rfl⟩
    have d19 : decide ((19 : Int) < (d.length : Int)) = false := by simp; omega
    replace h19 : d.length ≤ 19 := by omega
    by_cases h48 : x = 48
    · have q7 : ((x.toNat : Int) == 48) = true := by rw [h48]; rfl
      by_cases h1 : 1 < d.length
      · have HBAD := hide (show badM s from .inr (.inr ⟨by rw [HDIG.out, head_get, hx0, h48], .inl (by rw [HDIG.out]; exact h1)⟩))
        have d1 : decide ((1 : Int) < (d.length : Int)) = true := by simp; omega
        clear h1 h48 he hx0
        go_wp2_with fail
        go_ret2
        exact ⟨⟨_, _, rfl, num_bad (.inl HBAD.out)⟩, rfl⟩
      · have d1 : decide ((1 : Int) < (d.length : Int)) = false := by simp; omega
        have HBAD := hide (show badM s from .inr (.inr ⟨by rw [HDIG.out, head_get, hx0, h48], .inr HNEG.out⟩))
        clear h1 h48
        go_wp2_with fail
        go_ret2
        exact ⟨⟨_, _, rfl, num_bad (.inl HBAD.out)⟩, rfl⟩
    · have q7 : ((x.toNat : Int) == 48) = false := by
        simp only [beq_eq_false_iff_ne, ne_eq]
        exact fun e => h48 (UInt8.toNat_inj.1 (by have : (48 : UInt8).toNat = 48 := rfl; omega))
      have HNB := hide (show ¬ badM s by
        unfold badM
        rw [HDIG.out, HNEG.out]
        rintro (e | e | ⟨e, -⟩)
        · exact he (by rw [e]; rfl)
        · omega
        · rw [head_get, hx0] at e
          exact h48 (Option.some.inj e))
      clear h48 he hx0
      go_wp2_with fail
      go_loop [6, 7] (fun sn si => ∃ (i v : Nat), i ≤ d.length ∧ si = .int .i64 i ∧ sn = .int .u64 v ∧ valF 0 (d.take i) = v ∧ ∀ c ∈ d.take i, isD c) (fun _ si => d.length - (RowKit.intOf si).toNat)
      case atStart => exact ⟨0, 0, by omega, rfl, rfl, by simp [valF], by simp⟩
      case round =>
        obtain ⟨i, v, hi, rfl, rfl, hv, hall⟩ := hrel
        have hvs : v < 10000000000000000000 := by rw [← hv]; exact val_small (i := i) (k := 19) (by omega) hall
        have hvt : i < d.length → v < 1000000000000000000 := fun h => by rw [← hv]; exact val_small (i := i) (k := 18) (by omega) hall
        have HV := hide hv; have HALL := hide hall
        clear hv hall
        by_cases hlt : i < d.length
        · replace hvt := hvt hlt
          have d5 : decide ((i : Int) < d.length) = true := by simp; omega
          have d5' : decide (i < d.length) = true := by simpa using hlt
          obtain ⟨c, hc⟩ : ∃ c, d[i]? = some c := ⟨_, List.getElem?_eq_getElem hlt⟩
          have hx := get_str hc
          have hmem : c ∈ digM s := by rw [HDIG.out]; exact List.mem_of_getElem? hc
          have HC := hide hc; have HMEM := hide hmem
          have hc256 : c.toNat < 256 := c.toNat_lt
          clear hc hmem
          by_cases h48 : c.toNat < 48
          · have q1 : decide ((c.toNat : Int) < 48) = true := by simp; omega
            have HNB := hide (show NumIs s 0 false from num_bad (.inr ⟨c, HMEM.out, fun h => by have := h.1; omega⟩))
            clear h48
            go_wp2_with fail
            go_ret2
            exact ⟨⟨_, _, rfl, HNB.out⟩, rfl⟩
          · have q1 : decide ((c.toNat : Int) < 48) = false := by simp; omega
            by_cases h57 : 57 < c.toNat
            · have q2 : decide (57 < (c.toNat : Int)) = true := by simp; omega
              have HNB := hide (show NumIs s 0 false from num_bad (.inr ⟨c, HMEM.out, fun h => by have := h.2; omega⟩))
              clear h57 h48
              go_wp2_with fail
              go_ret2
              exact ⟨⟨_, _, rfl, HNB.out⟩, rfl⟩
            · have q2 : decide (57 < (c.toNat : Int)) = false := by simp; omega
              have p1 : IntKind.u64.wrap (10 * (v : Int)) = 10 * (v : Int) := IntWalk.u64_in _ (by omega)
              have p2 : IntKind.u8.wrap ((c.toNat : Int) - 48) = (c.toNat : Int) - 48 := IntWalk.u8_in _ (by omega)
              have p3 : IntKind.u64.wrap ((c.toNat : Int) - 48) = (c.toNat : Int) - 48 := IntWalk.u64_in _ (by omega)
              have p4 : IntKind.u64.wrap (10 * (v : Int) + ((c.toNat : Int) - 48)) = 10 * (v : Int) + ((c.toNat : Int) - 48) := IntWalk.u64_in _ (by omega)
              have HN := hide (show valF 0 (d.take (i + 1)) = v * 10 + (c.toNat - 48) by rw [val_take HC.out, HV.out])
              have HA := hide (show ∀ x ∈ d.take (i + 1), isD x by
                rw [List.take_add_one, HC.out]
                intro x hx
                rcases List.mem_append.1 hx with h | h
                · exact HALL.out x h
                · simp at h; subst h; exact ⟨by omega, by omega⟩)
              have hev : 10 * (v : Int) + ((c.toNat : Int) - 48) = ((v * 10 + (c.toNat - 48) : Nat) : Int) := by omega
              have HEV := hide hev
              clear h48 h57 hev
              go_wp2_with fail
              go_round
              case rel => exact ⟨i + 1, v * 10 + (c.toNat - 48), by omega, by go_num, by rw [HEV.out], HN.out, HA.out⟩
              case measure => simp [RowKit.intOf]; omega
        · clear hvt
          have d5 : decide ((i : Int) < d.length) = false := by simp; omega
          have d5' : decide (i < d.length) = false := by simpa using hlt
          have hie : d.take i = d := List.take_of_length_le (by omega)
          have HV' := hide (show valF 0 (digM s) = v by rw [HDIG.out, ← HV.out, hie])
          have HA' := hide (show ∀ c ∈ digM s, isD c by rw [HDIG.out, ← hie]; exact HALL.out)
          clear hie hlt
          have HN := hide (show (v : Int) ≤ 9223372036854775808 → NumIs s (-(v : Int)) true from fun hle => by
            have := number_ok (s := s) HNB.out HA'.out (by rw [HNEG.out, if_pos rfl, HV'.out]; omega)
            rw [HNEG.out, if_pos rfl, HV'.out] at this
            exact ⟨by rw [this]; rfl, fun m hm => (by rw [this] at hm; exact Option.some.inj hm), by omega, by omega⟩)
          have HX := hide (show 9223372036854775808 < v → ∀ n : Int, -9223372036854775808 ≤ n → n ≤ 9223372036854775807 → NumIs s n false from fun hlt n hn1 hn2 => by
            have hno : numM s = none := by
              cases hx : numM s with
              | none => rfl
              | some n =>
                obtain ⟨hs, m, hm, rfl⟩ := numM_some hx
                obtain ⟨-, -, h3⟩ := number_no hx (parse_bounds hm)
                rw [HNEG.out, if_pos rfl, HV'.out] at h3
                omega
            exact ⟨by rw [hno]; rfl, fun m hm => (by rw [hno] at hm; cases hm), hn1, hn2⟩)
          by_cases hle : v ≤ 9223372036854775808
          · have q5 : decide ((v : Int) ≤ 9223372036854775808) = true := by simp; omega
            have H1 := hide (HN.out (by omega))
            go_wp2_with fail
            go_ret2
            refine ⟨⟨_, _, rfl, ?_⟩, rfl⟩
            have e : RowKit.wrap64 (-RowKit.wrap64 (v : Int)) = -(v : Int) := by unfold RowKit.wrap64; omega
            try rw [e]
            exact H1.out
          · have q5 : decide ((v : Int) ≤ 9223372036854775808) = false := by simp; omega
            have H1 := hide (HX.out (by omega))
            clear hle
            go_wp2_with fail
            go_ret2
            exact ⟨⟨_, _, rfl, H1.out _ (by unfold RowKit.wrap64; omega) (by unfold RowKit.wrap64; omega)⟩, rfl⟩
  · have q45 : ((c.toNat : Int) == 45) = false := by
      simp only [beq_eq_false_iff_ne, ne_eq]
      exact fun e => h45 (UInt8.toNat_inj.1 (by have : (45 : UInt8).toNat = 45 := rfl; omega))
    have HNEG := hide (show negM s = false by unfold negM; rw [head_get, hc, decide_eq_false_iff_not]; exact fun e => h45 (Option.some.inj e))
    have HDIG := hide (show digM s = s by unfold digM; rw [HNEG.out, if_neg (by simp)])
    have HC0 := hide hc
    clear hc h45 hsl
    go_enter Tryz.func99, Tryz.ntmps99
    by_cases he : s.length = 0
    · have hde : s = [] := List.eq_nil_of_length_eq_zero he
      have HBAD := hide (show badM s from .inl (by rw [HDIG.out, hde]))
      have q0 : (strOf s).toList.isEmpty = true := by rw [hde]; simp [strOf]
      clear he hde
      go_wp2_with fail
      go_ret2
      exact ⟨⟨_, _, rfl, num_bad (.inl HBAD.out)⟩, rfl⟩
    have q0 : (strOf s).toList.isEmpty = false := by
      cases hd : s with
      | nil => rw [hd] at he; exact absurd rfl he
      | cons a t => simp [strOf]
    have fd : (strOf s).size = s.length := strOf_size s
    obtain ⟨x, hx0⟩ : ∃ x, s[0]? = some x := ⟨_, List.getElem?_eq_getElem (by omega)⟩
    obtain rfl : x = c := Option.some.inj (hx0.symm.trans HC0.out)
    clear HC0
    have hx1 := get_str hx0
    have hpd : 0 < s.length := by omega
    by_cases h19 : 19 < s.length
    · have HBAD := hide (show badM s from .inr (.inl (by rw [HDIG.out]; exact h19)))
      have d19 : decide ((19 : Int) < (s.length : Int)) = true := by simp; omega
      clear he hx0 h19
      go_wp2_with fail
      go_ret2
      exact ⟨⟨_, _, rfl, num_bad (.inl HBAD.out)⟩, rfl⟩
    have d19 : decide ((19 : Int) < (s.length : Int)) = false := by simp; omega
    replace h19 : s.length ≤ 19 := by omega
    by_cases h48 : x = 48
    · have q7 : ((x.toNat : Int) == 48) = true := by rw [h48]; rfl
      by_cases h1 : 1 < s.length
      · have HBAD := hide (show badM s from .inr (.inr ⟨by rw [HDIG.out, head_get, hx0, h48], .inl (by rw [HDIG.out]; exact h1)⟩))
        have d1 : decide ((1 : Int) < (s.length : Int)) = true := by simp; omega
        clear h1 h48 he hx0
        go_wp2_with fail
        go_ret2
        exact ⟨⟨_, _, rfl, num_bad (.inl HBAD.out)⟩, rfl⟩
      · have d1 : decide ((1 : Int) < (s.length : Int)) = false := by simp; omega
        have HNB := hide (show ¬ badM s by
          unfold badM
          rw [HDIG.out, HNEG.out]
          rintro (e | e | ⟨-, e | e⟩)
          · exact he (by rw [e]; rfl)
          · omega
          · exact h1 e
          · cases e)
        clear h1 h48 he hx0
        go_wp2_with fail
        go_loop [6, 7] (fun sn si => ∃ (i v : Nat), i ≤ s.length ∧ si = .int .i64 i ∧ sn = .int .u64 v ∧ valF 0 (s.take i) = v ∧ ∀ c ∈ s.take i, isD c) (fun _ si => s.length - (RowKit.intOf si).toNat)
        case atStart => exact ⟨0, 0, by omega, rfl, rfl, by simp [valF], by simp⟩
        case round =>
          obtain ⟨i, v, hi, rfl, rfl, hv, hall⟩ := hrel
          have hvs : v < 10000000000000000000 := by rw [← hv]; exact val_small (i := i) (k := 19) (by omega) hall
          have hvt : i < s.length → v < 1000000000000000000 := fun h => by rw [← hv]; exact val_small (i := i) (k := 18) (by omega) hall
          have HV := hide hv; have HALL := hide hall
          clear hv hall
          by_cases hlt : i < s.length
          · replace hvt := hvt hlt
            have d5 : decide ((i : Int) < s.length) = true := by simp; omega
            have d5' : decide (i < s.length) = true := by simpa using hlt
            obtain ⟨c, hc⟩ : ∃ c, s[i]? = some c := ⟨_, List.getElem?_eq_getElem hlt⟩
            have hx := get_str hc
            have hmem : c ∈ digM s := by rw [HDIG.out]; exact List.mem_of_getElem? hc
            have HC := hide hc; have HMEM := hide hmem
            have hc256 : c.toNat < 256 := c.toNat_lt
            clear hc hmem
            by_cases h48 : c.toNat < 48
            · have q1 : decide ((c.toNat : Int) < 48) = true := by simp; omega
              have HNB := hide (show NumIs s 0 false from num_bad (.inr ⟨c, HMEM.out, fun h => by have := h.1; omega⟩))
              clear h48
              go_wp2_with fail
              go_ret2
              exact ⟨⟨_, _, rfl, HNB.out⟩, rfl⟩
            · have q1 : decide ((c.toNat : Int) < 48) = false := by simp; omega
              by_cases h57 : 57 < c.toNat
              · have q2 : decide (57 < (c.toNat : Int)) = true := by simp; omega
                have HNB := hide (show NumIs s 0 false from num_bad (.inr ⟨c, HMEM.out, fun h => by have := h.2; omega⟩))
                clear h57 h48
                go_wp2_with fail
                go_ret2
                exact ⟨⟨_, _, rfl, HNB.out⟩, rfl⟩
              · have q2 : decide (57 < (c.toNat : Int)) = false := by simp; omega
                have p1 : IntKind.u64.wrap (10 * (v : Int)) = 10 * (v : Int) := IntWalk.u64_in _ (by omega)
                have p2 : IntKind.u8.wrap ((c.toNat : Int) - 48) = (c.toNat : Int) - 48 := IntWalk.u8_in _ (by omega)
                have p3 : IntKind.u64.wrap ((c.toNat : Int) - 48) = (c.toNat : Int) - 48 := IntWalk.u64_in _ (by omega)
                have p4 : IntKind.u64.wrap (10 * (v : Int) + ((c.toNat : Int) - 48)) = 10 * (v : Int) + ((c.toNat : Int) - 48) := IntWalk.u64_in _ (by omega)
                have HN := hide (show valF 0 (s.take (i + 1)) = v * 10 + (c.toNat - 48) by rw [val_take HC.out, HV.out])
                have HA := hide (show ∀ x ∈ s.take (i + 1), isD x by
                  rw [List.take_add_one, HC.out]
                  intro x hx
                  rcases List.mem_append.1 hx with h | h
                  · exact HALL.out x h
                  · simp at h; subst h; exact ⟨by omega, by omega⟩)
                have hev : 10 * (v : Int) + ((c.toNat : Int) - 48) = ((v * 10 + (c.toNat - 48) : Nat) : Int) := by omega
                have HEV := hide hev
                clear h48 h57 hev
                go_wp2_with fail
                go_round
                case rel => exact ⟨i + 1, v * 10 + (c.toNat - 48), by omega, by go_num, by rw [HEV.out], HN.out, HA.out⟩
                case measure => simp [RowKit.intOf]; omega
          · clear hvt
            have d5 : decide ((i : Int) < s.length) = false := by simp; omega
            have d5' : decide (i < s.length) = false := by simpa using hlt
            have hie : s.take i = s := List.take_of_length_le (by omega)
            have HV' := hide (show valF 0 (digM s) = v by rw [HDIG.out, ← HV.out, hie])
            have HA' := hide (show ∀ c ∈ digM s, isD c by rw [HDIG.out, ← hie]; exact HALL.out)
            clear hie hlt
            have HN := hide (show (v : Int) < 9223372036854775808 → NumIs s (v : Int) true from fun hle => by
              have := number_ok (s := s) HNB.out HA'.out (by rw [HNEG.out, if_neg (by simp), HV'.out]; omega)
              rw [HNEG.out, if_neg (by simp), HV'.out] at this
              exact ⟨by rw [this]; rfl, fun m hm => (by rw [this] at hm; exact Option.some.inj hm), by omega, by omega⟩)
            have HX := hide (show 9223372036854775808 ≤ v → ∀ n : Int, -9223372036854775808 ≤ n → n ≤ 9223372036854775807 → NumIs s n false from fun hlt n hn1 hn2 => by
              have hno : numM s = none := by
                cases hx : numM s with
                | none => rfl
                | some n =>
                  obtain ⟨hs, m, hm, rfl⟩ := numM_some hx
                  obtain ⟨-, -, h3⟩ := number_no hx (parse_bounds hm)
                  rw [HNEG.out, if_neg (by simp), HV'.out] at h3
                  omega
              exact ⟨by rw [hno]; rfl, fun m hm => (by rw [hno] at hm; cases hm), hn1, hn2⟩)
            by_cases hle : v < 9223372036854775808
            · have q5 : decide ((v : Int) < 9223372036854775808) = true := by simp; omega
              have H1 := hide (HN.out (by omega))
              go_wp2_with fail
              go_ret2
              refine ⟨⟨_, _, rfl, ?_⟩, rfl⟩
              have e : RowKit.wrap64 (v : Int) = (v : Int) := by unfold RowKit.wrap64; omega
              try rw [e]
              exact H1.out
            · have q5 : decide ((v : Int) < 9223372036854775808) = false := by simp; omega
              have H1 := hide (HX.out (by omega))
              clear hle
              go_wp2_with fail
              go_ret2
              exact ⟨⟨_, _, rfl, H1.out _ (by unfold RowKit.wrap64; omega) (by unfold RowKit.wrap64; omega)⟩, rfl⟩
    · have q7 : ((x.toNat : Int) == 48) = false := by
        simp only [beq_eq_false_iff_ne, ne_eq]
        exact fun e => h48 (UInt8.toNat_inj.1 (by have : (48 : UInt8).toNat = 48 := rfl; omega))
      have HNB := hide (show ¬ badM s by
        unfold badM
        rw [HDIG.out, HNEG.out]
        rintro (e | e | ⟨e, -⟩)
        · exact he (by rw [e]; rfl)
        · omega
        · rw [head_get, hx0] at e
          exact h48 (Option.some.inj e))
      clear h48 he hx0
      go_wp2_with fail
      go_loop [6, 7] (fun sn si => ∃ (i v : Nat), i ≤ s.length ∧ si = .int .i64 i ∧ sn = .int .u64 v ∧ valF 0 (s.take i) = v ∧ ∀ c ∈ s.take i, isD c) (fun _ si => s.length - (RowKit.intOf si).toNat)
      case atStart => exact ⟨0, 0, by omega, rfl, rfl, by simp [valF], by simp⟩
      case round =>
        obtain ⟨i, v, hi, rfl, rfl, hv, hall⟩ := hrel
        have hvs : v < 10000000000000000000 := by rw [← hv]; exact val_small (i := i) (k := 19) (by omega) hall
        have hvt : i < s.length → v < 1000000000000000000 := fun h => by rw [← hv]; exact val_small (i := i) (k := 18) (by omega) hall
        have HV := hide hv; have HALL := hide hall
        clear hv hall
        by_cases hlt : i < s.length
        · replace hvt := hvt hlt
          have d5 : decide ((i : Int) < s.length) = true := by simp; omega
          have d5' : decide (i < s.length) = true := by simpa using hlt
          obtain ⟨c, hc⟩ : ∃ c, s[i]? = some c := ⟨_, List.getElem?_eq_getElem hlt⟩
          have hx := get_str hc
          have hmem : c ∈ digM s := by rw [HDIG.out]; exact List.mem_of_getElem? hc
          have HC := hide hc; have HMEM := hide hmem
          have hc256 : c.toNat < 256 := c.toNat_lt
          clear hc hmem
          by_cases h48 : c.toNat < 48
          · have q1 : decide ((c.toNat : Int) < 48) = true := by simp; omega
            have HNB := hide (show NumIs s 0 false from num_bad (.inr ⟨c, HMEM.out, fun h => by have := h.1; omega⟩))
            clear h48
            go_wp2_with fail
            go_ret2
            exact ⟨⟨_, _, rfl, HNB.out⟩, rfl⟩
          · have q1 : decide ((c.toNat : Int) < 48) = false := by simp; omega
            by_cases h57 : 57 < c.toNat
            · have q2 : decide (57 < (c.toNat : Int)) = true := by simp; omega
              have HNB := hide (show NumIs s 0 false from num_bad (.inr ⟨c, HMEM.out, fun h => by have := h.2; omega⟩))
              clear h57 h48
              go_wp2_with fail
              go_ret2
              exact ⟨⟨_, _, rfl, HNB.out⟩, rfl⟩
            · have q2 : decide (57 < (c.toNat : Int)) = false := by simp; omega
              have p1 : IntKind.u64.wrap (10 * (v : Int)) = 10 * (v : Int) := IntWalk.u64_in _ (by omega)
              have p2 : IntKind.u8.wrap ((c.toNat : Int) - 48) = (c.toNat : Int) - 48 := IntWalk.u8_in _ (by omega)
              have p3 : IntKind.u64.wrap ((c.toNat : Int) - 48) = (c.toNat : Int) - 48 := IntWalk.u64_in _ (by omega)
              have p4 : IntKind.u64.wrap (10 * (v : Int) + ((c.toNat : Int) - 48)) = 10 * (v : Int) + ((c.toNat : Int) - 48) := IntWalk.u64_in _ (by omega)
              have HN := hide (show valF 0 (s.take (i + 1)) = v * 10 + (c.toNat - 48) by rw [val_take HC.out, HV.out])
              have HA := hide (show ∀ x ∈ s.take (i + 1), isD x by
                rw [List.take_add_one, HC.out]
                intro x hx
                rcases List.mem_append.1 hx with h | h
                · exact HALL.out x h
                · simp at h; subst h; exact ⟨by omega, by omega⟩)
              have hev : 10 * (v : Int) + ((c.toNat : Int) - 48) = ((v * 10 + (c.toNat - 48) : Nat) : Int) := by omega
              have HEV := hide hev
              clear h48 h57 hev
              go_wp2_with fail
              go_round
              case rel => exact ⟨i + 1, v * 10 + (c.toNat - 48), by omega, by go_num, by rw [HEV.out], HN.out, HA.out⟩
              case measure => simp [RowKit.intOf]; omega
        · clear hvt
          have d5 : decide ((i : Int) < s.length) = false := by simp; omega
          have d5' : decide (i < s.length) = false := by simpa using hlt
          have hie : s.take i = s := List.take_of_length_le (by omega)
          have HV' := hide (show valF 0 (digM s) = v by rw [HDIG.out, ← HV.out, hie])
          have HA' := hide (show ∀ c ∈ digM s, isD c by rw [HDIG.out, ← hie]; exact HALL.out)
          clear hie hlt
          have HN := hide (show (v : Int) < 9223372036854775808 → NumIs s (v : Int) true from fun hle => by
            have := number_ok (s := s) HNB.out HA'.out (by rw [HNEG.out, if_neg (by simp), HV'.out]; omega)
            rw [HNEG.out, if_neg (by simp), HV'.out] at this
            exact ⟨by rw [this]; rfl, fun m hm => (by rw [this] at hm; exact Option.some.inj hm), by omega, by omega⟩)
          have HX := hide (show 9223372036854775808 ≤ v → ∀ n : Int, -9223372036854775808 ≤ n → n ≤ 9223372036854775807 → NumIs s n false from fun hlt n hn1 hn2 => by
            have hno : numM s = none := by
              cases hx : numM s with
              | none => rfl
              | some n =>
                obtain ⟨hs, m, hm, rfl⟩ := numM_some hx
                obtain ⟨-, -, h3⟩ := number_no hx (parse_bounds hm)
                rw [HNEG.out, if_neg (by simp), HV'.out] at h3
                omega
            exact ⟨by rw [hno]; rfl, fun m hm => (by rw [hno] at hm; cases hm), hn1, hn2⟩)
          by_cases hle : v < 9223372036854775808
          · have q5 : decide ((v : Int) < 9223372036854775808) = true := by simp; omega
            have H1 := hide (HN.out (by omega))
            go_wp2_with fail
            go_ret2
            refine ⟨⟨_, _, rfl, ?_⟩, rfl⟩
            have e : RowKit.wrap64 (v : Int) = (v : Int) := by unfold RowKit.wrap64; omega
            try rw [e]
            exact H1.out
          · have q5 : decide ((v : Int) < 9223372036854775808) = false := by simp; omega
            have H1 := hide (HX.out (by omega))
            clear hle
            go_wp2_with fail
            go_ret2
            exact ⟨⟨_, _, rfl, H1.out _ (by unfold RowKit.wrap64; omega) (by unfold RowKit.wrap64; omega)⟩, rfl⟩
end Go.Proofs.YthpnnffogbjhpaaGreatDoor.Kv
