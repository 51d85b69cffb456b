/- The ring's functions for values of type string: what each call answers and what it leaves in memory, for slots and bases below 2^62. -/
import Derived.Test.YtmgdhloehkdffaaRingM
namespace Go.Proofs.Ytmgdhloehkdffaa.RingS
open Go.RowKit
attribute [local go_sem] Oper.semAt_some
abbrev TR : TypeId := 58
abbrev TC : TypeId := 62
abbrev zero : Value := .string ByteArray.empty
theorem info : (Try.prog.info? 62).map (fun i => (i.zero, i.size, i.bytes)) = some (some (.agg #[.string ByteArray.empty, .bool false]), 2, 24) := by kernel_rfl

set_option maxHeartbeats 400000 in
theorem room_any {B C n : Nat} (w : World) (hB : w.cell? ⟨B, 1, none⟩ = some (.slice (some ⟨C, 0, none⟩) n n)) (hn : n ≤ 4096) :
    Calls Try.prog 26 #[.pointer (some ⟨B, 0, none⟩)] w fun e w' => e = .returned (.int .u64 n) ∧ w = w' := by
  go_enter Try.func26, Try.ntmps26
  go_wp2
  go_ret
  exact ⟨rfl, rfl⟩

set_option maxHeartbeats 400000 in
theorem at_any {B C n slot : Nat} (w : World) (hB : w.cell? ⟨B, 1, none⟩ = some (.slice (some ⟨C, 0, none⟩) n n)) (hn1 : 1 ≤ n) (hn : n ≤ 4096) (hs : slot < 9223372036854775808) :
    Calls Try.prog 27 #[.pointer (some ⟨B, 0, none⟩), .int .u64 slot] w fun e w' => e = .returned (.pointer (some ⟨C, slot % n * 2, none⟩)) ∧ ∃ k, w' = w.drewN k := by
  have hlt : slot % n < n := Nat.mod_lt _ (by omega)
  go_enter Try.func27, Try.ntmps27
  go_wp2_with fail
  go_quiet ((go_at_call 26; exact quiet_left (room_any _ hB hn)))
  go_wp2_with fail
  go_ret
  exact ⟨rfl, _, rfl⟩

set_option maxHeartbeats 400000 in
theorem get_nil (slot : Nat) (w : World) : Calls Try.prog 7 #[.pointer none, .int .u64 slot] w fun e w' => e = .returned (.tuple #[.string ByteArray.empty, .bool false]) ∧ ∃ k, w' = w.drewN k := by
  go_enter Try.func7, Try.ntmps7
  go_wp2_with fail
  go_quiet (fail)
  go_wp2_with fail
  go_ret2
  exact ⟨rfl, _, rfl⟩

set_option maxHeartbeats 400000 in
theorem get_any {B C n base slot : Nat} {f : Nat → Value × Bool} (w : World) (h : Ring TR TC w B C n base f) (hb : base < 2305843009213693952) (hs : slot < 4611686018427387904) :
    Calls Try.prog 7 #[.pointer (some ⟨B, 0, none⟩), .int .u64 slot] w fun e w' => e = .returned (.tuple #[(rget n base f zero slot).1, .bool (rget n base f zero slot).2]) ∧ ∃ k, w' = w.drewN k := by
  have hc0 := h.c0
  have hc1 := h.c1
  have hn1 := h.lo
  have hn := h.hi
  by_cases h1 : slot ≤ base
  · rw [rget_out (by omega)]
    have hd : decide ((slot : Int) ≤ base) = true := by simpa using h1
    clear h
    go_enter Try.func7, Try.ntmps7
    go_wp2_with fail
    go_quiet (fail)
    go_wp2_with fail
    go_ret2
    exact ⟨rfl, _, rfl⟩
  · have hd : decide ((slot : Int) ≤ base) = false := by simpa using h1
    by_cases h2 : n < slot - base
    · rw [rget_out (by omega)]
      have hd2 : decide ((n : Int) < slot - base) = true := by simp; omega
      clear h
      go_enter Try.func7, Try.ntmps7
      go_wp2_with fail
      go_quiet ((go_at_call 26; exact quiet_left (room_any _ hc1 hn)))
      go_wp2_with fail
      go_ret2
      exact ⟨rfl, _, rfl⟩
    · rw [rget_in (by omega) (by omega)]
      have hd2 : decide ((n : Int) < slot - base) = false := by simp; omega
      have hlt : slot % n < n := Nat.mod_lt _ (by omega)
      have hv := h.val hlt
      have hh := h.has hlt
      clear h
      go_enter Try.func7, Try.ntmps7
      go_wp2_with fail
      go_quiet ((go_at_call 26; exact quiet_left (room_any _ hc1 hn)))
      go_wp2_with (go_at_call 27; refine (at_any _ (by exact hc1) hn1 hn (by omega)).mono ?_; rintro e w' ⟨rfl, k, rfl⟩)
      go_quiet (fail)
      go_wp2_with fail
      go_ret2
      exact ⟨rfl, _, by simp only [World.drewN_drewN]; rfl⟩

set_option maxHeartbeats 400000 in
theorem base_any {B : Nat} {v : Value} (w : World) (hc : w.cell? ⟨B, 0, none⟩ = some v) : Calls Try.prog 10 #[.pointer (some ⟨B, 0, none⟩)] w fun e w' => e = .returned v ∧ w = w' := by
  go_enter Try.func10, Try.ntmps10
  go_wp2
  go_ret
  exact ⟨rfl, rfl⟩
set_option maxHeartbeats 400000 in
theorem base_nil (w : World) : Calls Try.prog 10 #[.pointer none] w fun e w' => e = .returned (.int .u64 0) ∧ w = w' := by
  go_enter Try.func10, Try.ntmps10
  go_wp2
  go_ret
  exact ⟨rfl, rfl⟩

set_option maxHeartbeats 400000 in
theorem set_nil (slot : Nat) (w : World) (x : ByteArray) : Calls Try.prog 8 #[.pointer none, .int .u64 slot, .string x] w fun e w' => e = .returned (.int .i64 2) ∧ w = w' := by
  go_enter Try.func8, Try.ntmps8
  go_wp2_with fail
  go_ret
  exact ⟨rfl, rfl⟩
set_option maxHeartbeats 400000 in
theorem set_low {B C n base slot : Nat} {f : Nat → Value × Bool} (w : World) (x : ByteArray) (h : Ring TR TC w B C n base f) (h1 : slot ≤ base) :
    Calls Try.prog 8 #[.pointer (some ⟨B, 0, none⟩), .int .u64 slot, .string x] w fun e w' => e = .returned (.int .i64 31) ∧ w = w' := by
  have hc0 := h.c0
  have hd : decide ((slot : Int) ≤ base) = true := by simpa using h1
  clear h
  go_enter Try.func8, Try.ntmps8
  go_wp2_with fail
  go_ret
  exact ⟨rfl, rfl⟩
set_option maxHeartbeats 400000 in
theorem set_full {B C n base slot : Nat} {f : Nat → Value × Bool} (w : World) (x : ByteArray) (h : Ring TR TC w B C n base f) (hs : slot < 4611686018427387904) (h1 : base + n < slot) :
    Calls Try.prog 8 #[.pointer (some ⟨B, 0, none⟩), .int .u64 slot, .string x] w fun e w' => e = .returned (.int .i64 30) ∧ ∃ k, w' = w.drewN k := by
  have hc0 := h.c0
  have hc1 := h.c1
  have hn := h.hi
  have hd : decide ((slot : Int) ≤ base) = false := by simp; omega
  have hd2 : decide ((n : Int) < slot - base) = true := by simp; omega
  clear h
  go_enter Try.func8, Try.ntmps8
  go_wp2_with fail
  go_quiet ((go_at_call 26; exact quiet_left (room_any _ hc1 hn)))
  go_wp2_with fail
  go_ret
  exact ⟨rfl, _, rfl⟩
set_option maxHeartbeats 400000 in
theorem set_any {B C n base slot : Nat} {f : Nat → Value × Bool} (w : World) (x : ByteArray) (h : Ring TR TC w B C n base f) (hs : slot < 4611686018427387904) (h1 : base < slot) (h2 : slot ≤ base + n) :
    Calls Try.prog 8 #[.pointer (some ⟨B, 0, none⟩), .int .u64 slot, .string x] w fun e w' => e = .returned (.int .i64 0) ∧ Upd [C] w w' ∧ Ring TR TC w' B C n base (rput f (slot % n) (.string x, true)) := by
  have hc0 := h.c0
  have hc1 := h.c1
  have hn1 := h.lo
  have hn := h.hi
  have hd : decide ((slot : Int) ≤ base) = false := by simp; omega
  have hd2 : decide ((n : Int) < slot - base) = false := by simp; omega
  have hlt : slot % n < n := Nat.mod_lt _ (by omega)
  have hv := h.val hlt
  have hh := h.has hlt
  have hf0 := h.fC (slot % n * 2)
  have hf1 := h.fC (slot % n * 2 + 1)
  have H := hide h
  clear h
  go_enter Try.func8, Try.ntmps8
  go_wp2_with fail
  go_quiet ((go_at_call 26; exact quiet_left (room_any _ hc1 hn)))
  go_wp2_with (go_at_call 27; refine (at_any _ (by exact hc1) hn1 hn (by omega)).mono ?_; rintro e w' ⟨rfl, k, rfl⟩)
  have HH := H.out
  obtain ⟨r1, r2⟩ := (HH.drewN (nq + k)).put hlt (.string x) true
  go_ret
  exact ⟨rfl, ((Upd.refl _ w).drewN (nq + k)).trans r2, r1⟩

set_option maxHeartbeats 400000 in
theorem release_nil (tt : Nat) (w : World) : Calls Try.prog 9 #[.pointer none, .int .u64 tt] w fun e w' => e = .returned (.int .i64 2) ∧ w = w' := by
  go_enter Try.func9, Try.ntmps9
  go_wp2_with fail
  go_ret
  exact ⟨rfl, rfl⟩
set_option maxHeartbeats 400000 in
theorem release_low {B C n base tt : Nat} {f : Nat → Value × Bool} (w : World) (h : Ring TR TC w B C n base f) (h1 : tt < base) :
    Calls Try.prog 9 #[.pointer (some ⟨B, 0, none⟩), .int .u64 tt] w fun e w' => e = .returned (.int .i64 31) ∧ w = w' := by
  have hc0 := h.c0
  have hd : decide ((tt : Int) < base) = true := by simpa using h1
  clear h
  go_enter Try.func9, Try.ntmps9
  go_wp2_with fail
  go_ret
  exact ⟨rfl, rfl⟩
set_option maxHeartbeats 1000000 in
theorem release_any {B C n base tt : Nat} {f : Nat → Value × Bool} (w : World) (h : Ring TR TC w B C n base f) (hs : tt < 4611686018427387904) (h1 : base ≤ tt) :
    Calls Try.prog 9 #[.pointer (some ⟨B, 0, none⟩), .int .u64 tt] w fun e w' => e = .returned (.int .i64 0) ∧ Upd [B, C] w w' ∧ Ring TR TC w' B C n tt (rclear n base f zero (min n (tt - base))) := by
  have hc0 := h.c0
  have hn1 := h.lo
  have hn := h.hi
  have hd : decide (tt < base) = false := by simp; omega
  have H := hide h
  clear h
  go_enter Try.func9, Try.ntmps9
  go_wp2_with fail
  clear hc0
  go_loopw [5] (fun i wr => ∃ k : Nat, k ≤ n ∧ k ≤ tt - base ∧ i = .int .u64 (k + 1) ∧ Upd [C] w wr ∧ Ring TR TC wr B C n base (rclear n base f zero k)) (fun i _ => n + 1 - (intOf i).toNat)
  case atStart => exact ⟨0, by omega, by omega, rfl, Upd.refl _ _, H.out⟩
  case round =>
    obtain ⟨k, hk1, hk2, rfl, hu, hr⟩ := hrel
    have hc0 := hr.c0
    have hc1 := hr.c1
    have HR := hide hr
    have hlt : (base + (k + 1)) % n < n := Nat.mod_lt _ (by omega)
    have hv := hr.val hlt
    have hh := hr.has hlt
    have hf0 := hr.fC ((base + (k + 1)) % n * 2)
    have hf1 := hr.fC ((base + (k + 1)) % n * 2 + 1)
    have hfB := hr.fB
    clear hr
    by_cases hg : k + 1 ≤ n ∧ k + 1 ≤ tt - base
    · obtain ⟨hg1, hg2⟩ := hg
      have hd1 : decide ((k : Int) + 1 ≤ n) = true := by simp; omega
      have hd2 : decide ((k : Int) + 1 ≤ tt - base) = true := by simp; omega
      go_wp2_with (first
        | (go_at_call 26; refine (room_any _ (by exact hc1) hn).mono ?_; rintro e w' ⟨rfl, rfl⟩)
        | (go_at_call 27; refine (at_any (slot := base + (k + 1)) _ (by exact hc1) hn1 hn (by omega)).mono ?_; rintro e w' ⟨rfl, k', rfl⟩))
      obtain ⟨r1, r2⟩ := (HR.out.drewN k').put hlt zero false
      go_roundw
      case rel => exact ⟨k + 1, hg1, hg2, by go_num, (hu.drewN k').trans r2, r1⟩
      case measure => simp [intOf]; omega
    · have hkm : min n (tt - base) = k := by omega
      by_cases hg1 : k + 1 ≤ n
      · have hd1 : decide ((k : Int) + 1 ≤ n) = true := by simp; omega
        have hd2 : decide ((k : Int) + 1 ≤ tt - base) = false := by simp; omega
        clear hg
        go_wp2_with (go_at_call 26; refine (room_any _ (by exact hc1) hn).mono ?_; rintro e w' ⟨rfl, rfl⟩)
        obtain ⟨r1, r2⟩ := HR.out.rebase tt
        go_ret
        exact ⟨rfl, (hu.mono (by simp)).trans (r2.mono (by simp)), by rw [hkm]; exact r1⟩
      · have hd1 : decide ((k : Int) + 1 ≤ n) = false := by simp; omega
        clear hg
        go_wp2_with (go_at_call 26; refine (room_any _ (by exact hc1) hn).mono ?_; rintro e w' ⟨rfl, rfl⟩)
        obtain ⟨r1, r2⟩ := HR.out.rebase tt
        go_ret
        exact ⟨rfl, (hu.mono (by simp)).trans (r2.mono (by simp)), by rw [hkm]; exact r1⟩

set_option maxHeartbeats 1000000 in
/-- All, as an iterator: it tells every slot that has a value, in order. -/
theorem all_iter {B C n base : Nat} {f : Nat → Value × Bool} (hb : base < 2305843009213693952) :
    Iter Try.prog 28 #[.pointer (some ⟨B, 0, none⟩)] #[] (fun x : Nat × Value => #[.int .u64 x.1, x.2]) (rlist n base f) [B, C] [] (fun W => Ring TR TC W B C n base f) := by
  intro nn l J Jx W hR hY hJ hJx hJ0
  refine callsIn_wide.2 ?_
  have hn1 := hR.lo
  have hn := hR.hi
  go_enter Try.func28, Try.ntmps28
  have HR := hide hR
  have HY := hide hY
  have HJ := hide hJ
  have HJx := hide hJx
  have HJ0 := hide hJ0
  clear hR hY hJ hJx hJ0
  go_wp2_with fail
  go_loopw [4] (fun i wr => ∃ k : Nat, k ≤ n ∧ i = .int .u64 (k + 1) ∧ Ring TR TC wr B C n base f ∧ ∃ pre, rlist n base f = pre ++ rlistFrom n base f (k + 1) (n - k) ∧ J pre wr) (fun i _ => n + 1 - (intOf i).toNat)
  case atStart => exact ⟨0, by omega, rfl, HR.out, [], rfl, HJ0.out⟩
  case round =>
    obtain ⟨k, hk, rfl, hr, pre, hpre, hj⟩ := hrel
    have hc0 := hr.c0
    have hc1 := hr.c1
    by_cases hg : k + 1 ≤ n
    · have hd1 : decide ((k : Int) + 1 ≤ n) = true := by simp; omega
      have hd2 : decide ((base : Int) < base + (k + 1)) = true := by simp; omega
      obtain ⟨v, b, hfv⟩ : ∃ v b, f ((base + (k + 1)) % n) = (v, b) := ⟨_, _, rfl⟩
      have HG : ∀ W', Ring TR TC W' B C n base f → Calls Try.prog 7 #[.pointer (some ⟨B, 0, none⟩), .int .u64 ((base + (k + 1) : Nat) : Int)] W' fun e w' => e = .returned (.tuple #[v, .bool b]) ∧ ∃ k, w' = W'.drewN k := by
        intro W' h'
        have := get_any (slot := base + (k + 1)) W' h' hb (by omega)
        rw [rget_in (by omega) (by omega), hfv] at this
        exact this
      have HFV := hide hfv
      clear hfv
      have HPRE := hide hpre
      have HR2 := hide hr
      have HJ2 := hide hj
      clear hpre hr hj
      go_wp2_with fail
      go_quiet ((go_at_call 26; exact quiet_left (room_any _ hc1 hn)))
      go_wp2_with fail
      cases b with
      | false =>
        go_wp2_with (go_at_call 7; refine (HG _ (HR2.out.drewN nq)).mono ?_; rintro e w' ⟨rfl, k', rfl⟩)
        have e1 : rlistFrom n base f (k + 1) (n - k) = rlistFrom n base f (k + 1 + 1) (n - (k + 1)) := by
          obtain ⟨m, hm⟩ : ∃ m, n - k = m + 1 := ⟨n - k - 1, by omega⟩
          rw [hm, show n - (k + 1) = m from by omega, rlistFrom, HFV.out]
          simp
        refine ⟨⟨k + 1, hg, by go_num, HR2.out.drewN _, pre, by rw [HPRE.out, e1], HJ.out _ _ _ HJ2.out ((Upd.refl _ _).drewN _)⟩, by simp [intOf]; omega⟩
      | true =>
        have e1 : rlistFrom n base f (k + 1) (n - k) = (base + (k + 1), v) :: rlistFrom n base f (k + 1 + 1) (n - (k + 1)) := by
          obtain ⟨m, hm⟩ : ∃ m, n - k = m + 1 := ⟨n - k - 1, by omega⟩
          rw [hm, show n - (k + 1) = m from by omega, rlistFrom, HFV.out]
          simp
        have E1 := hide e1
        clear e1
        go_upto_region 5 with (go_at_call 7; refine (HG _ (HR2.out.drewN nq)).mono ?_; rintro e w' ⟨rfl, k', rfl⟩)
        obtain ⟨fn, tmps, assign, body, hy, hR⟩ := HY.out pre (base + (k + 1), v) (wr.drewN (nq + k')) (HJ.out _ _ _ HJ2.out ((Upd.refl _ _).drewN _)) (by rw [HPRE.out, E1.out]; simp)
        replace hy : (Instr.yield l #[.int .u64 ((base : Int) + ((k : Int) + 1)), v]).run Try.prog (wr.drewN (nq + k')) = .ok (.round l fn tmps assign body) (wr.drewN (nq + k')) := hy
        have HRR := hide hR
        clear hR
        refine (wpIn_wide (n := nn + 1)).1 ?_
        gi_wp2
        refine HRR.out.mono ?_
        rintro e W' (⟨rfl, hj3, hk3⟩ | ⟨rfl, hjx3⟩)
        · have hR3 : Ring TR TC W' B C n base f := ⟨hk3.get HR2.out.hB (by simp), hk3.get HR2.out.hC (by simp), HR2.out.ne, hn1, hn⟩
          have HR3 := hide hR3
          clear hR3 hy HY
          gi_wp2
          go_wp2_with fail
          refine ⟨⟨k + 1, hg, by go_num, HR3.out, pre ++ [(base + (k + 1), v)], by rw [HPRE.out, E1.out]; simp, hj3⟩, by simp [intOf]; omega⟩
        · clear hy HY
          gi_wp2
          go_wp2_with fail
          refine bodyPost_ret (results_none rfl _ _ _) rfl ?_
          exact ⟨⟨_, rfl⟩, .inr ⟨_, by rw [HPRE.out, E1.out]; simp, hjx3⟩⟩
    · have hd1 : decide ((k : Int) + 1 ≤ n) = false := by simp; omega
      have hkn : k = n := by omega
      have HF : rlist n base f = pre := by rw [hpre, hkn]; simp [rlistFrom]
      have HFF := hide HF
      have HJ2 := hide hj
      clear hpre hr hj HF hkn hg
      go_wp2_with fail
      go_quiet ((go_at_call 26; exact quiet_left (room_any _ hc1 hn)))
      go_wp2_with fail
      go_end0
      exact ⟨⟨_, rfl⟩, .inl (by rw [HFF.out]; exact HJ.out _ _ _ HJ2.out ((Upd.refl _ _).drewN _))⟩

set_option maxHeartbeats 1000000 in
theorem last_any {B C n base : Nat} {f : Nat → Value × Bool} (w : World) (h : Ring TR TC w B C n base f) (hb : base < 2305843009213693952) :
    Calls Try.prog 11 #[.pointer (some ⟨B, 0, none⟩)] w fun e w' => e = .returned (.int .u64 (rlast base (rlist n base f) : Nat)) ∧ Upd [] w w' := by
  have hc0 := h.c0
  have H := hide h
  clear h
  refine calls_of_wp_marks Try.func11 rfl ?_
  simp only [Try.ntmps11, List.size_toArray, List.length_cons, List.length_nil, Nat.reduceAdd, Nat.reduceSub, Array.replicate_succ, Array.replicate_zero, List.push_toArray, List.append_toArray, List.nil_append, List.cons_append]
  go_wp2_with (go_at_call 10; refine (base_any _ (by exact hc0)).mono ?_; rintro e w' ⟨rfl, rfl⟩)
  have HB : Ring TR TC (w.alloc (.cells #[.int .u64 base] 29)) B C n base f := H.out.upd ((Upd.refl [] w).alloc _) (by simp) (by simp)
  have hlB := H.out.ltB
  have hlC := H.out.ltC
  refine wp_range (gf := 28) rfl (enters_of Try.func28 (by kernel_rfl) rfl) (all_iter hb) (fun _ => rfl) (by simp; omega) (by simp)
    (fun W hu => HB.upd hu (by simp) (by simp))
    (fun pre W => Upd [] w W ∧ W.heap[w.heap.size]? = some (.cells #[.int .u64 (rlast base pre : Nat)] 29 (0, 0))) (fun _ _ _ => False) ?hI (fun _ _ _ _ h _ => h) ?h0 ?hround ?hdone (fun _ _ _ _ h _ => h.elim)
  case hI =>
    rintro pre W1 W2 ⟨h1, h2⟩ hu
    exact ⟨h1.trans_new hu (by simp; omega), hu.get h2 (by simp; omega)⟩
  case h0 =>
    intro W hu hsz
    exact ⟨((Upd.refl [] w).alloc _).trans hu, hu.get (blk_new _ _) (by simp)⟩
  case hround =>
    rintro pre x W hpre ⟨h1, h2⟩ hsz
    gi_wp2
    refine ⟨Keeps.refl _ _, fun W2 hu hi => ?_⟩
    obtain ⟨h3, h4⟩ := hi ⟨h1, h2⟩
    have hc := blk_cell (i := 0) h4 rfl
    have hf := blk_free (i := 0) h4
    gi_wp2
    refine ⟨Keeps.setCell _ (by simp; omega) _, h3.setCell (.inr (by simp)) _, ?_⟩
    rw [rlast_snoc]
    exact blk_set h4 _
  case hdone =>
    rintro W ⟨h1, h2⟩ hd
    have hc := blk_cell (i := 0) h2 rfl
    simp only [List.getElem_toArray, List.getElem_cons_zero] at hc
    go_wp2
    exact leaves_one hd (results_tmp rfl _ _ _) ⟨rfl, h1.putObj (.inr (by simp)) _⟩

set_option maxHeartbeats 400000 in
theorem new_bad (n : Int) (w : World) (h : n < 1 ∨ 4096 < n) : Calls Try.prog 6 #[.int .i64 n] w fun e w' => e = .returned (.tuple #[.pointer none, .int .i64 1]) ∧ w = w' := by
  by_cases h1 : n < 1
  · have hd : decide (n < 1) = true := by simpa using h1
    clear h
    go_enter Try.func6, Try.ntmps6
    go_wp2_with fail
    go_ret2
    exact ⟨rfl, rfl⟩
  · have hd : decide (n < 1) = false := by simpa using h1
    have hd2 : decide (4096 < n) = true := by simp; omega
    clear h
    go_enter Try.func6, Try.ntmps6
    go_wp2_with fail
    go_ret2
    exact ⟨rfl, rfl⟩
set_option maxHeartbeats 400000 in
theorem new_any (n : Nat) (w : World) (h1 : 1 ≤ n) (h2 : n ≤ 4096) : Calls Try.prog 6 #[.int .i64 n] w fun e w' => ∃ B C, e = .returned (.tuple #[.pointer (some ⟨B, 0, none⟩), .int .i64 0]) ∧ Upd [] w w' ∧
    Ring TR TC w' B C n 0 (fun _ => (zero, false)) ∧ w.heap.size ≤ B ∧ w.heap.size ≤ C := by
  obtain ⟨i0, hi, hz0, hz1, hz2⟩ := info_parts info
  have hmk := fun W => run_make_rowN (P := Try.prog) 56 62 i0 (.agg #[.string ByteArray.empty, .bool false]) Try.underlying56 hi hz0 .i64 .i64 n n (Nat.le_refl _) (by rw [hz2]; omega) (by omega) W
  rw [hz1] at hmk
  simp only [Value.cells] at hmk
  have hd : decide ((n : Int) < 1) = false := by simp; omega
  have hd2 : decide ((4096 : Int) < n) = false := by simp; omega
  go_enter Try.func6, Try.ntmps6
  go_wp2_with fail
  go_ret2
  refine ⟨_, _, rfl, ((Upd.refl [] w).alloc _).alloc _, ⟨?_, ?_, by simp, h1, h2⟩, by simp, Nat.le_refl _⟩
  · have := blk_new (w.alloc (.cells (madeCells #[.string ByteArray.empty, .bool false] (n * 2)) 62)) (.cells #[.int .u64 0, .slice (some ⟨w.heap.size, 0, none⟩) n n] 58)
    rwa [World.size_alloc] at this
  · rw [← rc_made]
    exact blk_alloc (blk_new _ _) _

/-- All of nil: nothing. -/
theorem all_nil_iter : Iter Try.prog 28 #[.pointer none] #[] (fun x : Nat × Value => #[.int .u64 x.1, x.2]) [] [] [] (fun _ => True) := by
  intro nn l J Jx W _ hY hJ hJx hJ0
  refine callsIn_wide.2 ?_
  go_enter Try.func28, Try.ntmps28
  have HJ0 := hide hJ0
  clear hY hJ hJx hJ0
  go_wp2_with fail
  refine bodyPost_ret (results_none rfl _ _ _) rfl ?_
  exact ⟨⟨_, rfl⟩, .inl HJ0.out⟩
set_option maxHeartbeats 1000000 in
theorem last_nil (w : World) : Calls Try.prog 11 #[.pointer none] w fun e w' => e = .returned (.int .u64 0) ∧ Upd [] w w' := by
  refine calls_of_wp_marks Try.func11 rfl ?_
  simp only [Try.ntmps11, List.size_toArray, List.length_cons, List.length_nil, Nat.reduceAdd, Nat.reduceSub, Array.replicate_succ, Array.replicate_zero, List.push_toArray, List.append_toArray, List.nil_append, List.cons_append]
  go_wp2_with (go_at_call 10; refine (base_nil _).mono ?_; rintro e w' ⟨rfl, rfl⟩)
  refine wp_range (gf := 28) rfl (enters_of Try.func28 (by kernel_rfl) rfl) all_nil_iter (fun _ => rfl) (by simp) (by simp)
    (fun W hu => trivial)
    (fun pre W => Upd [] w W ∧ W.heap[w.heap.size]? = some (.cells #[.int .u64 0] 29 (0, 0))) (fun _ _ _ => False) ?hI (fun _ _ _ _ h _ => h) ?h0 ?hround ?hdone (fun _ _ _ _ h _ => h.elim)
  case hI =>
    rintro pre W1 W2 ⟨h1, h2⟩ hu
    exact ⟨h1.trans_new hu (by simp; omega), hu.get h2 (by simp; omega)⟩
  case h0 =>
    intro W hu hsz
    exact ⟨((Upd.refl [] w).alloc _).trans hu, hu.get (blk_new _ _) (by simp)⟩
  case hround =>
    rintro pre x W hpre
    simp at hpre
  case hdone =>
    rintro W ⟨h1, h2⟩ hd
    have hc := blk_cell (i := 0) h2 rfl
    simp only [List.getElem_toArray, List.getElem_cons_zero] at hc
    go_wp2
    exact leaves_one hd (results_tmp rfl _ _ _) ⟨rfl, h1.putObj (.inr (by simp)) _⟩
end Go.Proofs.Ytmgdhloehkdffaa.RingS
