/- Eq4, FrW, FrP, FrE, FrA in one text. -/
import Derived.Test.YtekbhfpdakhhkaaGreatDoorGenAll
import Derived.Test.YtekbhfpdakhhkaaGreatDoorCrcAll
import Derived.Test.YtekbhfpdakhhkaaGreatDoorCrcW
import Derived.Test.YtekbhfpdakhhkaaGreatDoorVarAll
import Derived.IntWalk
import Derived.WalkMore
namespace Go.Proofs.YtekbhfpdakhhkaaGreatDoor
open Go.RowKit
theorem run_eq4 (d : Nat) (a0 a1 a2 a3 b0 b1 b2 b3 : Int) (w : World) :
    (Op.equalIn (d + 2) 164 (.agg #[.int .u8 a0, .int .u8 a1, .int .u8 a2, .int .u8 a3]) (.agg #[.int .u8 b0, .int .u8 b1, .int .u8 b2, .int .u8 b3])).run Tryz.prog w =
      .ok (a0 == b0 && a1 == b1 && a2 == b2 && a3 == b3) w := by
  have hp : ∀ (xs : Array Value) (i : Nat) (v : Value) w, xs[i]? = some v → (part 5 xs i).run Tryz.prog w = .ok v w := by
    intro xs i v w h
    have hagg : (isAgg 5).run Tryz.prog w = .ok false w := by
      unfold isAgg
      rw [Sem.run_bind, run_underlying Tryz.underlying5 w]
      rfl
    simp [part, Sem.run_bind, hagg, h]
  have he := fun (a b : Int) w => run_equalIn_int (P := Tryz.prog) w d 5 .u8 .u8 a b Tryz.underlying5
  unfold Op.equalIn
  rw [Sem.run_bind, run_underlying Tryz.underlying164]
  simp only [Result.andThen_ok, Sem.run_bind, sizeB, Std.Legacy.Range.forIn_eq_forIn_range']
  simp [List.range', Sem.run_bind, Sem.run_ite]
  rw [hp _ 0 (.int .u8 a0) _ rfl]
  simp only [Result.andThen_ok]
  rw [hp _ 0 (.int .u8 b0) _ rfl]
  rw [Result.andThen_ok, he]
  simp only [Result.andThen_ok]
  cases (a0 == b0)
  · simp
  simp
  rw [hp _ 1 (.int .u8 a1) _ rfl]
  simp only [Result.andThen_ok]
  rw [hp _ 1 (.int .u8 b1) _ rfl]
  rw [Result.andThen_ok, he]
  simp only [Result.andThen_ok]
  cases (a1 == b1)
  · simp
  simp
  rw [hp _ 2 (.int .u8 a2) _ rfl]
  simp only [Result.andThen_ok]
  rw [hp _ 2 (.int .u8 b2) _ rfl]
  rw [Result.andThen_ok, he]
  simp only [Result.andThen_ok]
  cases (a2 == b2)
  · simp
  simp
  rw [hp _ 3 (.int .u8 a3) _ rfl]
  simp only [Result.andThen_ok]
  rw [hp _ 3 (.int .u8 b3) _ rfl]
  rw [Result.andThen_ok, he]
  simp only [Result.andThen_ok]
  cases (a3 == b3) <;> simp
end Go.Proofs.YtekbhfpdakhhkaaGreatDoor
namespace Go.Proofs.YtekbhfpdakhhkaaGreatDoor.Fr
open Go.RowKit Go.Proofs.YtekbhfpdakhhkaaGreatDoor.Var Go.Proofs.YtekbhfpdakhhkaaGreatDoor.Crc

set_option maxHeartbeats 400000 in
theorem sum_any {xo : Option Addr} {m c : Nat} {bs : List UInt8} (w : World) (hst : TabAt w) (hs : SrcAt w xo m c (bs.map u8v) 1) (hm : m ≤ maxLen) :
    Calls Tryz.prog 108 #[.slice xo m c] w fun e w' => e = .returned (.agg ((le4 (Crc.sum bs)).map u8v).toArray) ∧ Upd [] w w' := by
  have HST := hide hst; have HS := hide hs
  clear hst hs
  go_enter Tryz.func108, Tryz.ntmps108
  go_wp2_with fail
  refine (Crc.sum_any _ (HST.out.upd ((Upd.refl [] w).alloc _) (by simp)) (src_upd_nil HS.out ((Upd.refl [] w).alloc _)) hm).mono ?_
  rintro e w1 ⟨rfl, hu1⟩
  have hb := hu1.get (blk_new w (.cells #[.int .u8 0, .int .u8 0, .int .u8 0, .int .u8 0] 164)) (by simp)
  have hc0 := blk_cell (i := 0) hb rfl
  have hc1 := blk_cell (i := 1) hb rfl
  have hc2 := blk_cell (i := 2) hb rfl
  have hc3 := blk_cell (i := 3) hb rfl
  have hf0 := blk_free (i := 0) hb
  have hf1 := blk_free (i := 1) hb
  have hf2 := blk_free (i := 2) hb
  have hf3 := blk_free (i := 3) hb
  simp only [List.getElem_toArray, List.getElem_cons_zero, List.getElem_cons_succ] at hc0 hc1 hc2 hc3
  have HU := hide (((Upd.refl [] w).alloc _).trans hu1); have HB := hide hb
  clear hu1 hb
  obtain ⟨s, hs⟩ : ∃ s, Crc.sum bs = s := ⟨_, rfl⟩
  rw [hs]
  have HE := hide hs
  clear hs
  go_wp2_with fail
  have hb4 := blk_set (i := 3) (blk_set (i := 2) (blk_set (i := 1) (blk_set (i := 0) HB.out (.int .u8 ((s : Int) % 256))) (.int .u8 ((s : Int) / 256 % 256))) (.int .u8 ((s : Int) / 65536 % 256))) (.int .u8 ((s : Int) / 16777216 % 256))
  have hq0 := blk_cell (i := 0) hb4 rfl
  have hq1 := blk_cell (i := 1) hb4 rfl
  have hq2 := blk_cell (i := 2) hb4 rfl
  have hq3 := blk_cell (i := 3) hb4 rfl
  simp only [List.setIfInBounds_toArray, List.set_cons_zero, List.set_cons_succ, List.getElem_toArray, List.getElem_cons_zero, List.getElem_cons_succ] at hq0 hq1 hq2 hq3
  have hv : ((le4 s).map u8v).toArray = #[.int .u8 ((s : Int) % 256), .int .u8 ((s : Int) / 256 % 256), .int .u8 ((s : Int) / 65536 % 256), .int .u8 ((s : Int) / 16777216 % 256)] := by
    simp only [le4, List.map_cons, List.map_nil, u8v]
    rw [ofNat8 (Nat.mod_lt _ (by decide)), ofNat8 (Nat.mod_lt _ (by decide)), ofNat8 (Nat.mod_lt _ (by decide)), ofNat8 (Nat.mod_lt _ (by decide))]
    simp only [Int.natCast_emod, Int.natCast_ediv]
    rfl
  rw [HE.out, hv]
  clear hc0 hc1 hc2 hc3
  refine bodyPost_ret (v := .agg #[.int .u8 ((s : Int) % 256), .int .u8 ((s : Int) / 256 % 256), .int .u8 ((s : Int) / 65536 % 256), .int .u8 ((s : Int) / 16777216 % 256)]) ?_ rfl ⟨rfl, (((HU.out.setCell (.inr (by simp)) _).setCell (.inr (by simp)) _).setCell (.inr (by simp)) _).setCell (.inr (by simp)) _⟩
  simp [results, Tryz.results108, go_sem, hq0, hq1, hq2, hq3]

/-- A number's bytes alone. -/
theorem uint_nil {n : Nat} (w : World) (hn : n < 18446744073709551616) :
    Calls Tryz.prog 80 #[.slice none 0 0, .int .u64 (n : Int)] w fun e w' => ∃ v ao cap, e = .returned v ∧ v = .slice ao (uv n).length cap ∧ w'.ownsRow w.heap.size 5 1 (.slice ao (uv n).length cap) (uv n).length ((uv n).map u8v) ∧ Upd [] w w' := by
  refine (uint_any (base := w.heap.size) (bs := []) w ⟨rfl, .inl ⟨rfl, rfl⟩⟩ (Nat.le_refl _) (by simp) hn).mono ?_
  rintro e w' ⟨v, rfl, h⟩
  have ho := h.own
  simp only [List.nil_append] at ho
  obtain ⟨ao, cap, rfl, -, -, -⟩ := owns_slice ho
  exact ⟨_, ao, cap, rfl, rfl, ho, h.upd⟩

/-- What Take answers, of bytes that lie at a slice. -/
def TakeSays (w : World) (xo : Option Addr) (bs : List UInt8) (e : Ending) (w' : World) : Prop :=
  Upd [] w w' ∧ (((take bs).2.2 ≠ 0 ∧ e = .returned (.tuple #[.slice none 0 0, .int .i64 0, .int .i64 (take bs).2.2])) ∨
    ((take bs).2.2 = 0 ∧ ∃ l n : Nat, n = (take bs).1.length ∧ l + n = (take bs).2.1 ∧ e = .returned (.tuple #[.slice (cutAt xo l (l + n)) n n, .int .i64 ((take bs).2.1 : Nat), .int .i64 0]) ∧ SrcAt w (cutAt xo l (l + n)) n n ((take bs).1.map u8v) 1))
set_option maxHeartbeats 4000000 in
theorem take_any {xo : Option Addr} {m c : Nat} {bs : List UInt8} (w : World) (hst : TabAt w) (hs : SrcAt w xo m c (bs.map u8v) 1) (hmc : m ≤ c) (hc : c ≤ maxLen) :
    Calls Tryz.prog 104 #[.slice xo m c] w fun e w' => TakeSays w xo bs e w' := by
  have HST := hide hst; have HS := hide hs
  have hlen : bs.length = m := by have := hs.len; simpa using this
  have HL := hide hlen
  have hlt : ∀ a, xo = some a → m ≠ 0 → a.block < w.heap.size := fun a e h0 => by
    obtain ⟨b, off, e2, h2⟩ := src_at (j := 0) hs (by omega)
    rw [e] at e2
    cases e2
    exact World.block_lt_of_cell? w ⟨b, off + 0, none⟩ h2
  have HLT := hide hlt
  clear hst hs hlen hlt
  go_enter Tryz.func104, Tryz.ntmps104
  go_wp2_with fail
  refine (new_any _).mono ?_
  rintro e w1 ⟨v, rfl, rfl, h1, hu1⟩
  have H1 := hide h1; have U1 := hide hu1
  clear h1 hu1
  go_wp2_with fail
  refine (uint_read (T := fun _ => True) _ H1.out (src_upd_nil HS.out U1.out) hmc (fun a e h0 => ⟨by have := HLT.out a e h0; omega, trivial⟩)).mono ?_
  rintro e w2 ⟨rfl, hu2, yo, d, q, h2, -⟩
  have U2 := hide (U1.out.trans_new hu2 (by simp)); 
  obtain ⟨n, k, er, hrd⟩ : ∃ n k er, rd bs = (n, k, er) := ⟨_, _, _, rfl⟩
  rw [hrd] at h2 ⊢
  have H2 := hide h2; have RD := hide hrd
  clear hu2 h2 hrd
  go_wp2_with fail
  refine (err_any _ H2.out).mono ?_
  rintro e w3 ⟨rfl, rfl⟩
  by_cases her : er = 0
  · subst her
    obtain ⟨hk0, hk10, hkl, huv, hn64⟩ := rd_ok RD.out rfl
    have hkk : (uv n).length = k := by rw [huv, List.length_take]; omega
    have HUV := hide huv; have HKK := hide hkk
    rw [HL.out] at hkl
    clear huv hkk
    go_wp2_with fail
    refine (uint_nil _ hn64).mono ?_
    rintro e w4 ⟨v, ao, cap, rfl, rfl, -, hu4⟩
    rw [HKK.out]
    have U4 := hide (U2.out.trans hu4)
    clear hu4
    by_cases hn0 : n = 0 ∨ 65536 < n
    · have HT : Hid (take bs = ([], 0, 11)) := by
        show take bs = ([], 0, 11)
        unfold take
        rw [RD.out, if_neg (by simp), if_pos hn0]
      have q0 : ((n : Int) == 0) = true ∨ ((n : Int) == 0) = false ∧ decide ((65536 : Int) < n) = true := by
        rcases hn0 with h | h
        · exact .inl (by simp; omega)
        · exact .inr ⟨by simp; omega, by simp; omega⟩
      clear hn0
      rcases q0 with q0 | ⟨q0, q1⟩
      all_goals
        go_wp2_with fail
        go_ret3
        exact ⟨U4.out, .inl ⟨by rw [HT.out]; simp, by rw [HT.out]; rfl⟩⟩
    · have q0 : ((n : Int) == 0) = false := by simp; omega
      have q1 : decide ((65536 : Int) < n) = false := by simp; omega
      have hnb : n ≤ 65536 := by omega
      have hnp : 0 < n := by omega
      by_cases hsh : m < k + 4 + n
      · have HT : Hid (take bs = ([], 0, 10)) := by
          show take bs = ([], 0, 10)
          unfold take
          rw [RD.out, if_neg (by simp), if_neg hn0, if_pos (by rw [HL.out]; exact hsh)]
        have q2 : decide ((m : Int) < k + 4 + n) = true := by simp; omega
        clear hn0
        go_wp2_with fail
        go_ret3
        exact ⟨U4.out, .inl ⟨by rw [HT.out]; simp, by rw [HT.out]; rfl⟩⟩
      · have q2 : decide ((m : Int) < k + 4 + n) = false := by simp; omega
        clear hn0
        unfold maxLen at hc
        have r1 := run_cut_lhm (P := Tryz.prog) 39 5 Tryz.underlying39 sizeB xo m c (k + 4) (k + 4 + n) (k + 4 + n) ((k : Int) + 4) ((k : Int) + 4 + n) ((k : Int) + 4 + n) (by omega) (by omega) (by omega) (by omega) (by omega) (by omega)
        rw [show k + 4 + n - (k + 4) = n from by omega] at r1
        have r2 := run_cut_lh (P := Tryz.prog) 39 5 Tryz.underlying39 sizeB xo m c k (k + 4) (k : Int) ((k : Int) + 4) (by omega) (by omega) (by omega) (by omega)
        rw [show k + 4 - k = 4 from by omega] at r2
        go_upto_region 12 with fail
        have hxn : xo ≠ none := fun h => by have := (HS.out.nil h).1; omega
        obtain ⟨a, ha⟩ : ∃ a, cutAt xo k c = some a := by
          cases h : cutAt xo k c with
          | none => exact absurd (cutAt_none.1 h) hxn
          | some a => exact ⟨a, rfl⟩
        rw [ha] at r2
        have harr : ∀ w', (Instr.arrayAt 164 (.slice (some a) 4 (c - k))).run Tryz.prog w' = .ok (.pointer (some a)) w' := fun w' => run_arrayAt (P := Tryz.prog) w' 164 5 4 (some a) 4 (c - k) Tryz.underlying164 (Nat.le_refl _)
        have hin := src_cut (l := k + 4) (h := k + 4 + n) (q := k + 4 + n) HS.out (by omega) (by omega) (by omega) (by omega)
        have hhd := src_cut (l := k) (h := k + 4) (q := c) HS.out (by omega) (by omega) (by omega) (by omega)
        rw [show k + 4 + n - (k + 4) = n by omega] at hin
        rw [ha, show k + 4 - k = 4 by omega] at hhd
        obtain ⟨ins, hins⟩ : ∃ ins, (bs.drop (k + 4)).take n = ins := ⟨_, rfl⟩
        obtain ⟨hd4, hhd4⟩ : ∃ hd4, (bs.drop k).take 4 = hd4 := ⟨_, rfl⟩
        rw [hins] at hin
        rw [hhd4] at hhd
        have hl4 : hd4.length = 4 := by have := hhd.len; simpa using this
        have hin4 := src_upd_nil hin (U4.out.drewN 1)
        have hh4 := src_upd_nil hhd (U4.out.drewN 1)
        obtain ⟨b, off, e0, c0⟩ := src_at (j := 0) hh4 (by omega)
        cases e0
        have hx : ∀ j, j < 4 → (w4.drewN 1).cell? ⟨b, off + j, none⟩ = some (.int .u8 ((hd4.getD j 0).toNat : Nat)) := fun j hj => by
          obtain ⟨b', off', e1, c1⟩ := src_at hh4 hj
          cases e1
          exact c1
        have hx0 := hx 0 (by decide)
        have hx1 := hx 1 (by decide)
        have hx2 := hx 2 (by decide)
        have hx3 := hx 3 (by decide)
        simp only [Nat.add_zero] at hx0
        obtain ⟨y0, hy0⟩ : ∃ y, (hd4.getD 0 0).toNat = y := ⟨_, rfl⟩
        obtain ⟨y1, hy1⟩ : ∃ y, (hd4.getD 1 0).toNat = y := ⟨_, rfl⟩
        obtain ⟨y2, hy2⟩ : ∃ y, (hd4.getD 2 0).toNat = y := ⟨_, rfl⟩
        obtain ⟨y3, hy3⟩ : ∃ y, (hd4.getD 3 0).toNat = y := ⟨_, rfl⟩
        rw [hy0] at hx0; rw [hy1] at hx1; rw [hy2] at hx2; rw [hy3] at hx3
        have HYS := hide (And.intro hy0 (And.intro hy1 (And.intro hy2 hy3)))
        have HL4 := hide hl4
        clear hy0 hy1 hy2 hy3 hl4 hx hh4 c0
        have HIN := hide hin; have HHD := hide hhd; have HINS := hide hins; have HHD4 := hide hhd4
        clear hin hhd hins hhd4 hxn r1
        have hwk : IntKind.i64.wrap (k : Int) = (k : Int) := IntWalk.i64_in _ (by omega)
        refine wp_region_z (fun w' => w'.cell? ⟨b, off, none⟩ = some (.int .u8 (y0 : Int)) ∧ w'.cell? ⟨b, off + 1, none⟩ = some (.int .u8 (y1 : Int)) ∧ w'.cell? ⟨b, off + 2, none⟩ = some (.int .u8 (y2 : Int)) ∧ w'.cell? ⟨b, off + 3, none⟩ = some (.int .u8 (y3 : Int))) 99 (by kernel_rfl) ?_
        refine wpAnyZ_takeE 0 rfl (by kernel_rfl) (by kernel_rfl) (by kernel_rfl) (by kernel_rfl) (fun _ _ _ _ h => h) rfl (by exact ⟨hx0, hx1, hx2, hx3⟩) ?_
        apply Exists.intro
        refine ⟨fun wx hS => ?_, ?_⟩
        · obtain ⟨s0, s1, s2, s3⟩ := hS; go_simp; rfl
        simp only [Act.put, List.setIfInBounds_toArray, List.set_cons_succ, List.set_cons_zero, List.getElem_toArray, List.getElem_cons_zero]
        refine wpAnyZ_takeE 2 rfl (by kernel_rfl) (by kernel_rfl) (by kernel_rfl) (by kernel_rfl) (fun _ _ _ _ h => h) rfl (by exact ⟨hx0, hx1, hx2, hx3⟩) ?_
        apply Exists.intro
        refine ⟨fun wx hS => ?_, ?_⟩
        · obtain ⟨s0, s1, s2, s3⟩ := hS; go_simp; rfl
        simp only [Act.put, List.setIfInBounds_toArray, List.set_cons_succ, List.set_cons_zero, List.getElem_toArray, List.getElem_cons_succ, List.getElem_cons_zero]
        refine wpAnyZ_takeE 3 rfl (by kernel_rfl) (by kernel_rfl) (by kernel_rfl) (by kernel_rfl) (fun _ _ _ _ h => h) rfl (by exact ⟨hx0, hx1, hx2, hx3⟩) ?_
        apply Exists.intro
        refine ⟨fun wx hS => ?_, ?_⟩
        · obtain ⟨s0, s1, s2, s3⟩ := hS; go_simp; rfl
        simp only [Act.put, List.setIfInBounds_toArray, List.set_cons_succ, List.set_cons_zero, List.getElem_toArray, List.getElem_cons_succ, List.getElem_cons_zero]
        refine wpAnyZ_takeE 4 rfl (by kernel_rfl) (by kernel_rfl) (by kernel_rfl) (by kernel_rfl) (fun _ _ _ _ h => h) rfl (by exact ⟨hx0, hx1, hx2, hx3⟩) ?_
        apply Exists.intro
        refine ⟨fun wx hS => ?_, ?_⟩
        · obtain ⟨s0, s1, s2, s3⟩ := hS; go_simp; rfl
        simp only [Act.put, List.setIfInBounds_toArray, List.set_cons_succ, List.set_cons_zero, List.getElem_toArray, List.getElem_cons_succ, List.getElem_cons_zero]
        refine wpAnyZ_takeE 5 rfl (by kernel_rfl) (by kernel_rfl) (by kernel_rfl) (by kernel_rfl) (fun _ _ _ _ h => h) rfl (by exact ⟨hx0, hx1, hx2, hx3⟩) ?_
        apply Exists.intro
        refine ⟨fun wx hS => ?_, ?_⟩
        · obtain ⟨s0, s1, s2, s3⟩ := hS; go_simp; rfl
        simp only [Act.put, List.setIfInBounds_toArray, List.set_cons_succ, List.set_cons_zero, List.getElem_toArray, List.getElem_cons_succ, List.getElem_cons_zero]
        refine wpAnyZ_takeE 6 rfl (by kernel_rfl) (by kernel_rfl) (by kernel_rfl) (by kernel_rfl) (fun _ _ _ _ h => h) rfl (by exact ⟨hx0, hx1, hx2, hx3⟩) ?_
        apply Exists.intro
        refine ⟨fun wx hS => ?_, ?_⟩
        · obtain ⟨s0, s1, s2, s3⟩ := hS; go_simp; rfl
        simp only [Act.put, List.setIfInBounds_toArray, List.set_cons_succ, List.set_cons_zero, List.getElem_toArray, List.getElem_cons_succ, List.getElem_cons_zero]
        refine wpAnyZ_takeE 7 rfl (by kernel_rfl) (by kernel_rfl) (by kernel_rfl) (by kernel_rfl) (fun _ _ _ _ h => h) rfl (by exact ⟨hx0, hx1, hx2, hx3⟩) ?_
        apply Exists.intro
        refine ⟨fun wx hS => ?_, ?_⟩
        · obtain ⟨s0, s1, s2, s3⟩ := hS; go_simp; rfl
        simp only [Act.put, List.setIfInBounds_toArray, List.set_cons_succ, List.set_cons_zero, List.getElem_toArray, List.getElem_cons_succ, List.getElem_cons_zero]
        refine wpAnyZ_takeE 8 rfl (by kernel_rfl) (by kernel_rfl) (by kernel_rfl) (by kernel_rfl) (fun _ _ _ _ h => h) rfl (by exact ⟨hx0, hx1, hx2, hx3⟩) ?_
        apply Exists.intro
        refine ⟨fun wx hS => ?_, ?_⟩
        · obtain ⟨s0, s1, s2, s3⟩ := hS; go_simp; rfl
        simp only [Act.put, List.setIfInBounds_toArray, List.set_cons_succ, List.set_cons_zero, List.getElem_toArray, List.getElem_cons_succ, List.getElem_cons_zero]
        refine wpAnyZ_one 1 (by kernel_rfl) rfl rfl (fun K hK => ?_)
        try simp only [List.getElem_toArray, List.getElem_cons_succ, List.getElem_cons_zero]
        go_simp
        refine (sum_any _ (HST.out.upd (U4.out.drewN 1) (by simp)) hin4 (by unfold maxLen; omega)).mono ?_
        rintro e w5 ⟨rfl, hu5⟩
        have hh5 := src_upd_nil HHD.out ((U4.out.drewN 1).trans hu5)
        have hx : ∀ j, j < 4 → w5.cell? ⟨b, off + j, none⟩ = some (.int .u8 ((hd4.getD j 0).toNat : Nat)) := fun j hj => by
          obtain ⟨b', off', e1, c1⟩ := src_at hh5 hj
          cases e1
          exact c1
        have hx0 := hx 0 (by decide)
        have hx1 := hx 1 (by decide)
        have hx2 := hx 2 (by decide)
        have hx3 := hx 3 (by decide)
        simp only [Nat.add_zero] at hx0
        obtain ⟨g0, g1, g2, g3⟩ := HYS.out
        rw [g0] at hx0; rw [g1] at hx1; rw [g2] at hx2; rw [g3] at hx3
        have hsv : ((le4 (Crc.sum ins)).map u8v).toArray = #[.int .u8 ((Crc.sum ins % 256 : Nat) : Int), .int .u8 ((Crc.sum ins / 256 % 256 : Nat) : Int), .int .u8 ((Crc.sum ins / 65536 % 256 : Nat) : Int), .int .u8 ((Crc.sum ins / 16777216 % 256 : Nat) : Int)] := by
          simp only [le4, List.map_cons, List.map_nil, u8v]
          rw [ofNat8 (Nat.mod_lt _ (by decide)), ofNat8 (Nat.mod_lt _ (by decide)), ofNat8 (Nat.mod_lt _ (by decide)), ofNat8 (Nat.mod_lt _ (by decide))]
        rw [hsv]
        obtain ⟨z0, hz0⟩ : ∃ z, Crc.sum ins % 256 = z := ⟨_, rfl⟩
        obtain ⟨z1, hz1⟩ : ∃ z, Crc.sum ins / 256 % 256 = z := ⟨_, rfl⟩
        obtain ⟨z2, hz2⟩ : ∃ z, Crc.sum ins / 65536 % 256 = z := ⟨_, rfl⟩
        obtain ⟨z3, hz3⟩ : ∃ z, Crc.sum ins / 16777216 % 256 = z := ⟨_, rfl⟩
        rw [hz0, hz1, hz2, hz3]
        have HZS := hide (And.intro hz0 (And.intro hz1 (And.intro hz2 hz3)))
        have U5 := hide ((U4.out.drewN 1).trans hu5)
        clear hsv hz0 hz1 hz2 hz3 g0 g1 g2 g3 hu5 hh5 hx
        refine hK _ _ (.inr ⟨hx0, hx1, hx2, hx3⟩) ?_
        clear hK K
        try simp only [Act.put, List.setIfInBounds_toArray, List.set_cons_succ, List.set_cons_zero]
        obtain ⟨bb, hbb, hq4⟩ : ∃ bb, ((z0 : Int) == y0 && (z1 : Int) == y1 && (z2 : Int) == y2 && (z3 : Int) == y3) = bb ∧ ∀ w', (Op.equalIn 10000 164 (.agg #[.int .u8 (z0 : Int), .int .u8 (z1 : Int), .int .u8 (z2 : Int), .int .u8 (z3 : Int)]) (.agg #[.int .u8 (y0 : Int), .int .u8 (y1 : Int), .int .u8 (y2 : Int), .int .u8 (y3 : Int)])).run Tryz.prog w' = .ok bb w' :=
          ⟨_, rfl, fun w' => run_eq4 9998 _ _ _ _ _ _ _ _ w'⟩
        have hbt : bb = true ↔ le4 (Crc.sum ins) = hd4 := by
          obtain ⟨g0, g1, g2, g3⟩ := HYS.out
          obtain ⟨k0, k1, k2, k3⟩ := HZS.out
          have l4 := HL4.out
          obtain ⟨p0, p1, p2, p3, rfl⟩ : ∃ p0 p1 p2 p3, hd4 = [p0, p1, p2, p3] := by
            match hd4, l4 with
            | [p0, p1, p2, p3], _ => exact ⟨p0, p1, p2, p3, rfl⟩
          simp only [List.getD_cons_zero, List.getD_cons_succ] at g0 g1 g2 g3
          rw [← hbb]
          simp only [Bool.and_eq_true, beq_iff_eq, le4, List.cons.injEq, and_true, ← UInt8.toNat_inj]
          rw [ofNat8 (Nat.mod_lt _ (by decide)), ofNat8 (Nat.mod_lt _ (by decide)), ofNat8 (Nat.mod_lt _ (by decide)), ofNat8 (Nat.mod_lt _ (by decide))]
          omega
        have HBT := hide hbt
        clear hbb hbt
        refine wpAnyZ_one 9 (by kernel_rfl) rfl rfl (fun K hK => ?_)
        try simp only [List.getElem_toArray, List.getElem_cons_succ, List.getElem_cons_zero]
        go_simp
        refine hK _ _ (.inr ⟨hx0, hx1, hx2, hx3⟩) ?_
        clear hK K
        try simp only [Act.put, List.setIfInBounds_toArray, List.set_cons_succ, List.set_cons_zero]
        refine wpAnyZ_done (by kernel_rfl) ?_ _
        have HT0 : Hid (¬ (n = 0 ∨ 65536 < n)) := by show ¬ (n = 0 ∨ 65536 < n); omega
        have HT1 : Hid (¬ bs.length < k + 4 + n) := by show ¬ bs.length < k + 4 + n; rw [HL.out]; exact hsh
        cases bb with
        | true =>
          have HT : Hid (take bs = (ins, k + 4 + n, 0)) := by
            show take bs = (ins, k + 4 + n, 0)
            unfold take
            simp only [RD.out, HINS.out, HHD4.out]
            rw [if_neg (by simp), if_neg HT0.out, if_neg HT1.out, if_neg (by simpa using HBT.out.1 rfl)]
          go_wp2_with fail
          go_ret3
          refine ⟨U5.out, .inr ⟨by rw [HT.out], k + 4, n, ?_, by rw [HT.out], ?_, ?_⟩⟩
          · rw [HT.out]; have := HIN.out.len; simpa using this.symm
          · rw [HT.out]; rfl
          · rw [HT.out]; exact HIN.out
        | false =>
          have HT : Hid (take bs = ([], 0, 12)) := by
            show take bs = ([], 0, 12)
            unfold take
            simp only [RD.out, HINS.out, HHD4.out]
            rw [if_neg (by simp), if_neg HT0.out, if_neg HT1.out, if_pos (fun h => by have := HBT.out.2 h; cases this)]
          go_wp2_with fail
          go_ret3
          exact ⟨U5.out, .inl ⟨by rw [HT.out]; simp, by rw [HT.out]; rfl⟩⟩
  · have q1 : (er == 0) = false := by simpa using her
    have HER := hide her
    clear her
    go_wp2_with fail
    go_ret3
    have HT : take bs = ([], 0, er) := by
      unfold take
      rw [RD.out, if_pos HER.out]
    exact ⟨U2.out, .inl ⟨by rw [HT]; exact HER.out, by rw [HT]; rfl⟩⟩
end Go.Proofs.YtekbhfpdakhhkaaGreatDoor.Fr
namespace Go.Proofs.YtekbhfpdakhhkaaGreatDoor.Fr
open Go.RowKit Go.Proofs.YtekbhfpdakhhkaaGreatDoor.Var Go.Proofs.YtekbhfpdakhhkaaGreatDoor.Crc

set_option maxHeartbeats 400000 in
theorem put_long {v : Value} {yo : Option Addr} {n d : Nat} (w : World) (h : n = 0 ∨ 65536 < n) :
    Calls Tryz.prog 87 #[v, .slice yo n d] w fun e w' => e = .returned (.tuple #[v, .int .i64 3]) ∧ w = w' := by
  have q0 : ((n : Int) == 0) = true ∨ ((n : Int) == 0) = false ∧ decide ((65536 : Int) < n) = true := by
    rcases h with h | h
    · exact .inl (by simp; omega)
    · exact .inr ⟨by simp; omega, by simp; omega⟩
  clear h
  rcases q0 with q0 | ⟨q0, q1⟩
  all_goals
    go_enter Tryz.func87, Tryz.ntmps87
    go_wp2_with fail
    go_ret2
    exact ⟨rfl, rfl⟩
theorem own_len (ao : Option Addr) (m n c : Nat) : (Value.slice ao m c).ownBlock = (Value.slice ao n c).ownBlock := by
  cases ao <;> rfl
set_option maxHeartbeats 4000000 in
theorem put_any {base n d : Nat} {v : Value} {yo : Option Addr} {bs ins : List UInt8} (w : World) (hst : TabAt w) (hv : w.ownsRow base 5 1 v bs.length (bs.map u8v)) (hb : base ≤ w.heap.size) (hl : bs.length ≤ 900000000000)
    (hs : SrcAt w yo n d (ins.map u8v) 1) (hn0 : 0 < n) (hn1 : n ≤ 65536) (hdis : ∀ a, yo = some a → v.ownBlock ≠ some a.block) :
    Calls Tryz.prog 87 #[v, .slice yo n d] w fun e w' => ∃ v', e = .returned (.tuple #[v', .int .i64 0]) ∧ Grew w base v (bs ++ fr ins) v' w' := by
  have q0 : ((n : Int) == 0) = false := by simp; omega
  have q1 : decide ((65536 : Int) < n) = false := by simp; omega
  have hlen : ins.length = n := by have := hs.len; simpa using this
  have hlv := owns_lt hv
  obtain ⟨ao, cap, rfl, -, -, -⟩ := owns_slice hv
  obtain ⟨i0, hi, hz0, hz1, hz2⟩ := info_parts infoB
  have hal : ∀ a, yo = some a → a.block < w.heap.size := fun a e => by
    obtain ⟨b, off, e2, h2⟩ := src_at (j := 0) hs hn0
    rw [e] at e2
    cases e2
    exact World.block_lt_of_cell? w ⟨b, off + 0, none⟩ h2
  have HAL := hide hal
  clear hal
  have HV := hide hv; have HLV := hide hlv; have HS := hide hs; have HST := hide hst; have HD := hide hdis; have HL := hide hlen
  clear hv hlv hs hst hdis hlen
  go_enter Tryz.func87, Tryz.ntmps87
  go_wp2_with fail
  refine (sum_any _ HST.out HS.out (by unfold maxLen; omega)).mono ?_
  rintro e w1 ⟨rfl, hu1⟩
  have hsv : ((le4 (Crc.sum ins)).map u8v).toArray = #[.int .u8 ((Crc.sum ins % 256 : Nat) : Int), .int .u8 ((Crc.sum ins / 256 % 256 : Nat) : Int), .int .u8 ((Crc.sum ins / 65536 % 256 : Nat) : Int), .int .u8 ((Crc.sum ins / 16777216 % 256 : Nat) : Int)] := by
    simp only [le4, List.map_cons, List.map_nil, u8v]
    rw [ofNat8 (Nat.mod_lt _ (by decide)), ofNat8 (Nat.mod_lt _ (by decide)), ofNat8 (Nat.mod_lt _ (by decide)), ofNat8 (Nat.mod_lt _ (by decide))]
  rw [hsv]
  obtain ⟨z0, hz0'⟩ : ∃ z, Crc.sum ins % 256 = z := ⟨_, rfl⟩
  obtain ⟨z1, hz1'⟩ : ∃ z, Crc.sum ins / 256 % 256 = z := ⟨_, rfl⟩
  obtain ⟨z2, hz2'⟩ : ∃ z, Crc.sum ins / 65536 % 256 = z := ⟨_, rfl⟩
  obtain ⟨z3, hz3'⟩ : ∃ z, Crc.sum ins / 16777216 % 256 = z := ⟨_, rfl⟩
  rw [hz0', hz1', hz2', hz3']
  have HZS := hide (And.intro hz0' (And.intro hz1' (And.intro hz2' hz3')))
  have U1 := hide hu1
  clear hu1 hsv hz0' hz1' hz2' hz3'
  go_upto_region 4 with fail
  have hA := blk_new w1 (.cells #[.int .u8 (z0 : Int), .int .u8 (z1 : Int), .int .u8 (z2 : Int), .int .u8 (z3 : Int)] 164)
  have hU2 : Upd [] w ((w1.alloc (.cells #[.int .u8 (z0 : Int), .int .u8 (z1 : Int), .int .u8 (z2 : Int), .int .u8 (z3 : Int)] 164)).drewN 1) := (U1.out.alloc _).drewN 1
  obtain ⟨A, hAe⟩ : ∃ A, w1.heap.size = A := ⟨_, rfl⟩
  rw [hAe] at hA ⊢
  have hAw : w.heap.size ≤ A := by rw [← hAe]; exact U1.out.size
  have hAl : A < (w1.alloc (.cells #[.int .u8 (z0 : Int), .int .u8 (z1 : Int), .int .u8 (z2 : Int), .int .u8 (z3 : Int)] 164)).heap.size := by simp; omega
  have HA := hide hA; have U2 := hide hU2
  have r1 : ∀ w', (Instr.sliceAt 164 (.pointer (some ⟨A, 0, none⟩)) none none none).run Tryz.prog w' = .ok (.slice (some ⟨A, 0, none⟩) 4 4) w' := fun w' => by kernel_rfl
  have hwn : IntKind.u64.wrap (n : Int) = (n : Int) := by rw [IntKind.wrap_u64]; omega
  clear hA hU2 hAe
  refine wp_region_z (fun _ => True) 99 (by kernel_rfl) ?_
  refine wpAnyZ_takeE 0 rfl (by kernel_rfl) (by kernel_rfl) (by kernel_rfl) (by kernel_rfl) (fun _ _ _ _ h => h) rfl (by exact trivial) ?_
  apply Exists.intro
  refine ⟨fun wx hS => ?_, ?_⟩
  · go_simp; rfl
  simp only [Act.put, List.setIfInBounds_toArray, List.set_cons_succ, List.set_cons_zero, List.getElem_toArray, List.getElem_cons_zero]
  refine wpAnyZ_takeE 1 rfl (by kernel_rfl) (by kernel_rfl) (by kernel_rfl) (by kernel_rfl) (fun _ _ _ _ h => h) rfl (by exact trivial) ?_
  apply Exists.intro
  refine ⟨fun wx hS => ?_, ?_⟩
  · go_simp; rfl
  simp only [Act.put, List.setIfInBounds_toArray, List.set_cons_succ, List.set_cons_zero, List.getElem_toArray, List.getElem_cons_succ, List.getElem_cons_zero]
  refine wpAnyZ_takeE 2 rfl (by kernel_rfl) (by kernel_rfl) (by kernel_rfl) (by kernel_rfl) (fun _ _ _ _ h => h) rfl (by exact trivial) ?_
  apply Exists.intro
  refine ⟨fun wx hS => ?_, ?_⟩
  · go_simp; rfl
  simp only [Act.put, List.setIfInBounds_toArray, List.set_cons_succ, List.set_cons_zero, List.getElem_toArray, List.getElem_cons_succ, List.getElem_cons_zero]
  refine wpAnyZ_takeE 3 rfl (by kernel_rfl) (by kernel_rfl) (by kernel_rfl) (by kernel_rfl) (fun _ _ _ _ h => h) rfl (by exact trivial) ?_
  apply Exists.intro
  refine ⟨fun wx hS => ?_, ?_⟩
  · go_simp; rfl
  simp only [Act.put, List.setIfInBounds_toArray, List.set_cons_succ, List.set_cons_zero, List.getElem_toArray, List.getElem_cons_succ, List.getElem_cons_zero]
  refine wpAnyZ_takeE 5 rfl (by kernel_rfl) (by kernel_rfl) (by kernel_rfl) (by kernel_rfl) (fun _ _ _ _ h => h) rfl (by exact trivial) ?_
  apply Exists.intro
  refine ⟨fun wx hS => ?_, ?_⟩
  · go_simp; rfl
  simp only [Act.put, List.setIfInBounds_toArray, List.set_cons_succ, List.set_cons_zero, List.getElem_toArray, List.getElem_cons_succ, List.getElem_cons_zero]
  refine wpAnyZ_takeE 7 rfl (by kernel_rfl) (by kernel_rfl) (by kernel_rfl) (by kernel_rfl) (fun _ _ _ _ h => h) rfl (by exact trivial) ?_
  apply Exists.intro
  refine ⟨fun wx hS => ?_, ?_⟩
  · go_simp; rfl
  simp only [Act.put, List.setIfInBounds_toArray, List.set_cons_succ, List.set_cons_zero, List.getElem_toArray, List.getElem_cons_succ, List.getElem_cons_zero]
  refine wpAnyZ_one 4 (by kernel_rfl) rfl rfl (fun K hK => ?_)
  try simp only [List.getElem_toArray, List.getElem_cons_succ, List.getElem_cons_zero]
  go_simp
  have hb2 : base ≤ ((w1.alloc (.cells #[.int .u8 (z0 : Int), .int .u8 (z1 : Int), .int .u8 (z2 : Int), .int .u8 (z3 : Int)] 164)).drewN 1).heap.size := Nat.le_trans hb U2.out.size
  refine (uint_any (base := base) (bs := bs) _ (owns_upd HV.out U2.out (by simp)) hb2 (by omega) (by omega)).mono ?_
  rintro e w3 ⟨v3, rfl, h3⟩
  have ho3 := h3.own
  have hu3 := h3.upd
  have hn3 := h3.new
  obtain ⟨ao3, cap3, rfl, -, -, -⟩ := owns_slice ho3
  have hA3 := hu3.get (b := A) HA.out (fun hm => by simp only [Option.mem_toList] at hm; have := (HLV.out _ hm).2; omega)
  have hs3 : SrcAt w3 yo n d (ins.map u8v) 1 := src_upd (src_upd_nil HS.out U2.out) hu3 (fun a e _ => by
    intro hm
    simp only [Option.mem_toList] at hm
    exact HD.out a e hm)
  have hsz3 := hu3.size
  have hul : (uv n).length ≤ 10 := uv_len10 (by omega)
  have hl3 : (bs ++ uv n).length = bs.length + (uv n).length := List.length_append
  rw [hl3] at ho3 ⊢
  have O3 := hide ho3; have U3 := hide hu3; have N3 := hide hn3; have A3 := hide hA3; have S3 := hide hs3; have L3 := hide hl3; have Z3 := hide hsz3
  obtain ⟨q3, hq3⟩ : ∃ q, bs.length + (uv n).length = q := ⟨_, rfl⟩
  rw [hq3]
  have hq3b : q3 ≤ 900000000010 := by omega
  have HQ3 := hide hq3
  have HOB := hide (own_len ao3 (bs ++ uv n).length q3 cap3)
  clear ho3 hu3 hn3 hA3 hs3 hl3 h3 hsz3 hq3 
  refine hK _ _ (.inr trivial) ?_
  clear hK K
  try simp only [Act.put, List.setIfInBounds_toArray, List.set_cons_succ, List.set_cons_zero]
  refine wpAnyZ_one 6 (by kernel_rfl) rfl rfl (fun K hK => ?_)
  try simp only [List.getElem_toArray, List.getElem_cons_succ, List.getElem_cons_zero]
  have hsrc4 : SrcAt w3 (some ⟨A, 0, none⟩) 4 4 ((le4 (Crc.sum ins)).map u8v) 1 := by
    refine src_block A3.out ?_ rfl
    obtain ⟨k0, k1, k2, k3⟩ := HZS.out
    simp only [le4, List.map_cons, List.map_nil, u8v]
    rw [ofNat8 (Nat.mod_lt _ (by decide)), ofNat8 (Nat.mod_lt _ (by decide)), ofNat8 (Nat.mod_lt _ (by decide)), ofNat8 (Nat.mod_lt _ (by decide)), k0, k1, k2, k3]
  refine wp_append_src _ _ _ 39 rfl base 5 i0 (.int .u8 0) 1 1 Tryz.underlying39 hi hz0 hz1 hz2 rfl (by decide) (.slice ao3 q3 cap3) q3 ((bs ++ uv ins.length).map u8v) rfl (by rw [← HQ3.out, HL.out]; exact O3.out) (some ⟨A, 0, none⟩) 4 4 ((le4 (Crc.sum ins)).map u8v) rfl hsrc4 (by unfold maxLen; omega) (by omega) (Nat.le_trans hb2 Z3.out) ?_
  intro ao4 cap4 w4 hown4 hU4 hn4
  have hnw : ∀ a, yo = some a → (Value.slice ao3 q3 cap3).ownBlock ≠ some a.block := fun a e h => by
    have h' : (Value.slice ao3 (bs ++ uv n).length cap3).ownBlock = some a.block := by rw [HOB.out]; exact h
    rcases N3.out _ h' with h5 | h5
    · exact HD.out a e h5
    · have := HAL.out a e
      have := U2.out.size
      omega
  have hs4 : SrcAt w4 yo n d (ins.map u8v) 1 := src_upd S3.out hU4 (fun a e _ => by
    intro hm
    simp only [Option.mem_toList] at hm
    exact hnw a e hm)
  have O4 := hide hown4; have U4 := hide hU4; have N4 := hide hn4; have S4 := hide hs4; have HNW := hide hnw
  have hz4 := hU4.size
  clear hown4 hU4 hn4 hs4 hsrc4 hnw
  refine hK _ _ (.inr trivial) ?_
  clear hK K
  try simp only [Act.put, List.setIfInBounds_toArray, List.set_cons_succ, List.set_cons_zero]
  refine wpAnyZ_one 8 (by kernel_rfl) rfl rfl (fun K hK => ?_)
  try simp only [List.getElem_toArray, List.getElem_cons_succ, List.getElem_cons_zero]
  refine wp_append_src _ _ _ 39 rfl base 5 i0 (.int .u8 0) 1 1 Tryz.underlying39 hi hz0 hz1 hz2 rfl (by decide) (.slice ao4 (q3 + 4) cap4) (q3 + 4) ((bs ++ uv ins.length).map u8v ++ (le4 (Crc.sum ins)).map u8v) rfl O4.out yo n d (ins.map u8v) rfl S4.out (by unfold maxLen; omega) (by omega) (Nat.le_trans hb2 (Nat.le_trans Z3.out hz4)) ?_
  intro ao5 cap5 w5 hown5 hU5 hn5
  have O5 := hide hown5; have U5 := hide hU5; have N5 := hide hn5
  clear hown5 hU5 hn5
  refine hK _ _ (.inr trivial) ?_
  clear hK K
  try simp only [Act.put, List.setIfInBounds_toArray, List.set_cons_succ, List.set_cons_zero]
  refine wpAnyZ_one 9 (by kernel_rfl) rfl rfl (fun K hK => ?_)
  try simp only [List.getElem_toArray, List.getElem_cons_succ, List.getElem_cons_zero]
  go_simp
  refine hK _ _ (.inr trivial) ?_
  clear hK K
  try simp only [Act.put, List.setIfInBounds_toArray, List.set_cons_succ, List.set_cons_zero]
  refine wpAnyZ_one 10 (by kernel_rfl) rfl rfl (fun K hK => ?_)
  try simp only [List.getElem_toArray, List.getElem_cons_succ, List.getElem_cons_zero]
  go_simp
  refine hK _ _ (.inr trivial) ?_
  clear hK K
  try simp only [Act.put, List.setIfInBounds_toArray, List.set_cons_succ, List.set_cons_zero]
  refine wpAnyZ_done (by kernel_rfl) ?_ _
  go_wp2_with fail
  go_ret2
  have n3 : ∀ k, (Value.slice ao3 q3 cap3).ownBlock = some k → (Value.slice ao bs.length cap).ownBlock = some k ∨ w.heap.size ≤ k := fun k hk => by
    have h' : (Value.slice ao3 (bs ++ uv n).length cap3).ownBlock = some k := by rw [HOB.out]; exact hk
    rcases N3.out k h' with h5 | h5
    · exact .inl h5
    · exact .inr (Nat.le_trans U2.out.size h5)
  have n4 : ∀ k, (Value.slice ao4 (q3 + 4) cap4).ownBlock = some k → (Value.slice ao bs.length cap).ownBlock = some k ∨ w.heap.size ≤ k := fun k hk => by
    rcases N4.out k hk with h5 | h5
    · exact n3 k h5
    · exact .inr (Nat.le_trans U2.out.size (Nat.le_trans Z3.out h5))
  refine ⟨_, rfl, ?_, ?_, ?_⟩
  · have e1 : (bs ++ fr ins).length = q3 + 4 + n := by
      rw [List.length_append, fr_len, HL.out, ← HQ3.out]; omega
    have e2 : (bs ++ fr ins).map u8v = (bs ++ uv ins.length).map u8v ++ (le4 (Crc.sum ins)).map u8v ++ ins.map u8v := by
      simp [fr]
    rw [e1, e2]
    exact O5.out
  · exact (((U2.out.mono (by simp)).trans U3.out).trans_new U4.out (fun k hk => by
      simp only [Option.mem_toList] at hk ⊢
      exact n3 k hk)).trans_new U5.out (fun k hk => by
      simp only [Option.mem_toList] at hk ⊢
      exact n4 k hk)
  · intro g hg
    rcases N5.out g hg with h5 | h5
    · exact n4 g h5
    · exact .inr (by have := U2.out.size; have := Z3.out; omega)
end Go.Proofs.YtekbhfpdakhhkaaGreatDoor.Fr
namespace Go.Proofs.YtekbhfpdakhhkaaGreatDoor.Fr
open Go.RowKit Go.Proofs.YtekbhfpdakhhkaaGreatDoor.Var Go.Proofs.YtekbhfpdakhhkaaGreatDoor.Crc

/-- What is yielded: where an inside lies, its bytes, the error. -/
abbrev Fy := Option Addr × List UInt8 × Int
def eachF : Nat → Option Addr → Nat → List UInt8 → List Fy
  | 0, _, _, _ => []
  | f + 1, xo, c, bs =>
    if bs = [] then []
    else if (take bs).2.2 ≠ 0 then [(none, [], (take bs).2.2)]
    else (cutAt xo ((take bs).2.1 - (take bs).1.length) (take bs).2.1, (take bs).1, 0) :: eachF f (cutAt xo (take bs).2.1 c) (c - (take bs).2.1) (bs.drop (take bs).2.1)
theorem eachF_more {f g c : Nat} {xo : Option Addr} {bs : List UInt8} (hf : bs.length ≤ f) (hg : bs.length ≤ g) : eachF f xo c bs = eachF g xo c bs := by
  induction f generalizing g xo c bs with
  | zero =>
    have : bs = [] := List.length_eq_zero_iff.1 (by omega)
    subst this
    cases g <;> simp [eachF]
  | succ f ih =>
    cases g with
    | zero =>
      have : bs = [] := List.length_eq_zero_iff.1 (by omega)
      subst this
      simp [eachF]
    | succ g =>
      unfold eachF
      split
      · rfl
      · split
        · rfl
        · rename_i h1 h2
          simp only [ne_eq, Decidable.not_not] at h2
          have := take_len h2
          rw [ih (g := g) (by simp; omega) (by simp; omega)]
def eachL (xo : Option Addr) (c : Nat) (bs : List UInt8) : List Fy := eachF bs.length xo c bs
theorem eachL_nil (xo : Option Addr) (c : Nat) : eachL xo c [] = [] := rfl
theorem eachL_err {xo : Option Addr} {c : Nat} {bs : List UInt8} (h0 : bs ≠ []) (h : (take bs).2.2 ≠ 0) : eachL xo c bs = [(none, [], (take bs).2.2)] := by
  obtain ⟨f, hf⟩ : ∃ f, bs.length = f + 1 := ⟨bs.length - 1, by have := List.length_pos_iff.2 h0; omega⟩
  unfold eachL
  rw [hf, eachF, if_neg h0, if_pos h]
theorem eachL_ok {xo : Option Addr} {c : Nat} {bs : List UInt8} (h0 : bs ≠ []) (h : (take bs).2.2 = 0) :
    eachL xo c bs = (cutAt xo ((take bs).2.1 - (take bs).1.length) (take bs).2.1, (take bs).1, 0) :: eachL (cutAt xo (take bs).2.1 c) (c - (take bs).2.1) (bs.drop (take bs).2.1) := by
  obtain ⟨f, hf⟩ : ∃ f, bs.length = f + 1 := ⟨bs.length - 1, by have := List.length_pos_iff.2 h0; omega⟩
  have hl := take_len h
  have e : eachL (cutAt xo (take bs).2.1 c) (c - (take bs).2.1) (bs.drop (take bs).2.1) = eachF f (cutAt xo (take bs).2.1 c) (c - (take bs).2.1) (bs.drop (take bs).2.1) := eachF_more (Nat.le_refl _) (by simp; omega)
  rw [e]
  unfold eachL
  rw [hf, eachF, if_neg h0, if_neg (by simpa using h)]
/-- The blocks that a slice lies in. -/
def blkOf (xo : Option Addr) : List Nat := xo.toList.map (·.block)
def blkM (m : Nat) (xo : Option Addr) : List Nat := if m = 0 then [] else blkOf xo
theorem blkOf_mem {xo : Option Addr} {a : Addr} (h : xo = some a) : a.block ∈ blkOf xo := by subst h; simp [blkOf]
theorem cutAt_block {xo : Option Addr} {l c : Nat} {a : Addr} (h : cutAt xo l c = some a) : ∃ b, xo = some b ∧ b.block = a.block := by
  unfold cutAt at h
  split at h
  · exact ⟨a, h, rfl⟩
  · cases xo with
    | none => cases h
    | some b =>
      cases h
      exact ⟨b, rfl, by unfold Addr.add; split <;> rfl⟩
theorem src_keeps {w w' : World} {K : List Nat} {xo : Option Addr} {m cp : Nat} {xs : List Value} (h : SrcAt w xo m cp xs 1) (hk : Keeps K w w') (hK : ∀ a, xo = some a → m ≠ 0 → a.block ∈ K) : SrcAt w' xo m cp xs 1 :=
  ⟨h.len, h.one, h.nil, fun a e j u hj => by
    have h1 := h.cells a e j u hj
    have hb : (a.add j).block = a.block := by unfold Addr.add; split <;> rfl
    have hm : m ≠ 0 := by
      intro h0
      have := h.len
      rw [h0] at this
      simp at this
      rw [this] at hj
      simp at hj
    have h3 := hk.2 _ (hK a e hm)
    rw [← hb] at h3
    rw [← h1]
    simp only [World.cell?, h3]⟩
theorem TabAt.keeps {K : List Nat} {w w' : World} (h : TabAt w) (hk : Keeps K w w') (hK : 0 ∈ K) : TabAt w' := fun i hi => by
  have h1 := h i hi
  have h2 := hk.2 _ hK
  rw [← h1]
  simp only [World.cell?, h2]

set_option maxHeartbeats 400000 in
theorem each_any {xo : Option Addr} {m c : Nat} (w : World) :
    Calls Tryz.prog 79 #[.slice xo m c] w fun e w' => e = .returned (.func (.func 103) #[] #[.pointer (some ⟨w.heap.size, 0, none⟩)]) ∧
      w'.heap[w.heap.size]? = some (.cells #[.slice xo m c] 39 (0, 0)) ∧ Upd [] w w' := by
  go_enter Tryz.func79, Tryz.ntmps79
  go_wp2_with fail
  go_ret
  exact ⟨rfl, blk_new _ _, (Upd.refl _ _).alloc _⟩

set_option maxHeartbeats 4000000 in
theorem each_iter {p m c : Nat} {xo : Option Addr} {bs : List UInt8} (hmc : m ≤ c) (hc : c ≤ maxLen) (hp0 : p ≠ 0) (hpx : ∀ a, xo = some a → m ≠ 0 → a.block ≠ p) :
    Iter Tryz.prog 103 #[] #[.pointer (some ⟨p, 0, none⟩)] (fun x : Fy => #[.slice x.1 x.2.1.length x.2.1.length, .int .i64 x.2.2]) (eachL xo c bs) (p :: 0 :: blkM m xo) [p]
      (fun W => W.heap[p]? = some (.cells #[.slice xo m c] 39 (0, 0)) ∧ SrcAt W xo m c (bs.map u8v) 1 ∧ TabAt W) := by
  rintro nn l0 J Jx W ⟨hR, hs, hst⟩ hY hJ hJx hJ0
  refine callsIn_wide.2 ?_
  go_enter Tryz.func103, Tryz.ntmps103
  have HR := hide hR
  have HY := hide hY
  have HJ := hide hJ
  have HJx := hide hJx
  have HJ0 := hide hJ0
  have HS := hide hs
  have HST := hide hst
  have HPX := hide hpx
  clear hR hY hJ hJx hJ0 hs hst hpx
  go_wp2_with fail
  go_loopw [6] (fun _ wr => ∃ (yo : Option Addr) (k d : Nat) (cs : List UInt8) (pre : List Fy), k ≤ d ∧ d ≤ maxLen ∧ eachL xo c bs = pre ++ eachL yo d cs ∧ wr.heap[p]? = some (.cells #[.slice yo k d] 39 (0, 0)) ∧ SrcAt wr yo k d (cs.map u8v) 1 ∧ TabAt wr ∧ J pre wr ∧
      (∀ a, yo = some a → k ≠ 0 → a.block ≠ p ∧ a.block ∈ blkM m xo) ∧ k ≤ m)
    (fun _ wr => match wr.cell? ⟨p, 0, none⟩ with | some (.slice _ k _) => k | _ => 0)
  case atStart =>
    refine ⟨xo, m, c, bs, [], hmc, hc, rfl, HR.out, HS.out, HST.out, HJ0.out, fun a e h0 => ⟨HPX.out a e h0, ?_⟩, Nat.le_refl _⟩
    rw [blkM, if_neg h0]
    exact blkOf_mem e
  case round =>
    obtain ⟨yo, k, d, cs, pre, hkd, hdm, hpre, hp, hs, hst, hj, hblk, hkm⟩ := hrel
    have hc := blk_cell (i := 0) hp rfl
    have hf := blk_free (i := 0) hp
    simp only [List.getElem_toArray, List.getElem_cons_zero] at hc
    have hlen : cs.length = k := by have := hs.len; simpa using this
    have HP := hide hp; have HPRE := hide hpre; have HJ2 := hide hj; have HS2 := hide hs; have HST2 := hide hst; have HB := hide hblk; have HL := hide hlen
    clear hp hpre hj hs hst hblk hlen HR HJ0 HS HST
    by_cases hk0 : 0 < k
    · have hd : decide (0 < k) = true := by simpa using hk0
      have hd2 : decide ((0 : Int) < k) = true := by simpa using hk0
      have hne : cs ≠ [] := fun h => by have := HL.out; rw [h] at this; simp at this; omega
      have HNE := hide hne
      clear hne
      go_wp2_with fail
      refine (take_any _ HST2.out HS2.out hkd hdm).mono ?_
      rintro e w2 ⟨hu2, (⟨he, rfl⟩ | ⟨he, l', n, hn, hln, rfl, hsrc⟩)⟩
      · obtain ⟨er, her⟩ : ∃ er, (take cs).2.2 = er := ⟨_, rfl⟩
        have HEL := hide (eachL_err (xo := yo) (c := d) HNE.out he)
        have q1 : (er == 0) = false := by rw [← her]; simpa using he
        rw [her] at HEL ⊢
        have U2 := hide hu2
        clear hu2 he her
        go_upto_region 2 with fail
        have HJ3 := hide (HJ.out _ _ _ HJ2.out (U2.out.mono (by simp)))
        obtain ⟨fn, tmps, assign, body, hy, hR⟩ := HY.out pre (none, [], er) w2 HJ3.out (by rw [HPRE.out, HEL.out]; exact List.prefix_refl _)
        replace hy : (Instr.yield l0 #[.slice none 0 0, .int .i64 er]).run Tryz.prog w2 = .ok (.round l0 fn tmps assign body) w2 := hy
        have HRR := hide hR
        clear hR
        refine (wpIn_wide (n := nn + 1)).1 ?_
        gi_wp2
        refine HRR.out.mono ?_
        rintro e W' (⟨rfl, hj3, hk3⟩ | ⟨rfl, hjx3⟩)
        · have HE := hide (show J (eachL xo c bs) W' by rw [HPRE.out, HEL.out]; exact hj3)
          clear hy HY hj3
          gi_wp2
          go_wp2_with fail
          refine bodyPost_ret (results_none rfl _ _ _) rfl ?_
          exact ⟨⟨_, rfl⟩, .inl HE.out⟩
        · have HE := hide (show Jx (eachL xo c bs) W' by rw [HPRE.out, HEL.out]; exact hjx3)
          clear hy HY hjx3
          gi_wp2
          go_wp2_with fail
          refine bodyPost_ret (results_none rfl _ _ _) rfl ?_
          exact ⟨⟨_, rfl⟩, .inr ⟨_, List.prefix_refl _, HE.out⟩⟩
      · have htl := take_len he
        have hel := eachL_ok (xo := yo) (c := d) HNE.out he
        obtain ⟨N, hN⟩ : ∃ N, (take cs).2.1 = N := ⟨_, rfl⟩
        obtain ⟨ins, hins⟩ : ∃ ins, (take cs).1 = ins := ⟨_, rfl⟩
        rw [hN] at hln htl hel ⊢
        rw [hins] at hn hel
        rw [hins] at hsrc
        subst hn
        rw [show N - ins.length = l' by omega] at hel
        rw [hln] at hsrc ⊢
        rw [HL.out] at htl
        obtain ⟨hN0, hNk⟩ := htl
        have r1 := run_cut_l (P := Tryz.prog) 39 5 Tryz.underlying39 sizeB yo k d N (N : Int) rfl hNk
        have U2 := hide hu2; have HEL := hide hel; have HSR := hide hsrc; have HLN := hide hln
        clear hu2 hel hsrc he hN hins hln
        go_upto_region 2 with fail
        have HJ3 := hide (HJ.out _ _ _ HJ2.out (U2.out.mono (by simp)))
        obtain ⟨fn, tmps, assign, body, hy, hR⟩ := HY.out pre (cutAt yo l' N, ins, 0) w2 HJ3.out (by rw [HPRE.out, HEL.out]; simp)
        replace hy : (Instr.yield l0 #[.slice (cutAt yo l' N) ins.length ins.length, .int .i64 0]).run Tryz.prog w2 = .ok (.round l0 fn tmps assign body) w2 := hy
        have HRR := hide hR
        clear hR
        refine (wpIn_wide (n := nn + 1)).1 ?_
        gi_wp2
        refine HRR.out.mono ?_
        rintro e W' (⟨rfl, hj3, hk3⟩ | ⟨rfl, hjx3⟩)
        · have hp2 := U2.out.get HP.out (by simp)
          have hp3 := hk3.get hp2 (by simp)
          have hc3 := blk_cell (i := 0) hp3 rfl
          have hf3 := blk_free (i := 0) hp3
          simp only [List.getElem_toArray, List.getElem_cons_zero] at hc3
          have hs3 := src_keeps (src_upd_nil HS2.out U2.out) hk3 (fun a e h0 => List.mem_cons_of_mem _ (List.mem_cons_of_mem _ (HB.out a e h0).2))
          have hst3 := TabAt.keeps (HST2.out.upd U2.out (by simp)) hk3 (by simp)
          have HP3 := hide hp3; have HJ4 := hide hj3; have HS3 := hide hs3; have HST3 := hide hst3; have HC := hide hc
          clear hy HY hc hf hp2 hp3 hj3 hk3 hs3 hst3
          gi_wp2
          go_wp2_with fail
          have hp4 := blk_set (i := 0) HP3.out (.slice (cutAt yo N d) (k - N) (d - N))
          have hc4 := blk_cell (i := 0) hp4 rfl
          simp only [List.getElem_toArray, List.setIfInBounds_toArray, List.set_cons_zero, List.getElem_cons_zero] at hc4
          have hU : Upd [p] W' (W'.setCell ⟨p, 0, none⟩ (.slice (cutAt yo N d) (k - N) (d - N))) := (Upd.refl _ _).setCell (.inl (by simp)) _
          have hs4 : SrcAt (W'.setCell ⟨p, 0, none⟩ (.slice (cutAt yo N d) (k - N) (d - N))) (cutAt yo N d) (k - N) (d - N) ((cs.drop N).map u8v) 1 := by
            have h5 := src_cut (l := N) (h := k) (q := d) HS3.out hNk (Nat.le_refl _) hkd (Nat.le_refl _)
            rw [List.take_of_length_le (by simp; rw [HL.out]; omega)] at h5
            refine src_upd h5 hU (fun a e h0 => ?_)
            obtain ⟨b, hb1, hb2⟩ := cutAt_block e
            have := (HB.out b hb1 (by omega)).1
            simp
            omega
          refine ⟨⟨cutAt yo N d, k - N, d - N, cs.drop N, pre ++ [(cutAt yo l' N, ins, 0)], by omega, by omega, by rw [HPRE.out, HEL.out]; simp, hp4, hs4, HST3.out.upd hU (by simpa using Ne.symm hp0), HJ.out _ _ _ HJ4.out hU, fun a e h0 => ?_, by omega⟩, ?_⟩
          · obtain ⟨b, hb1, hb2⟩ := cutAt_block e
            have := HB.out b hb1 (by omega)
            rw [← hb2]
            exact this
          · rw [hc4, HC.out]
            simp
            omega
        · clear hy HY
          gi_wp2
          go_wp2_with fail
          refine bodyPost_ret (results_none rfl _ _ _) rfl ?_
          exact ⟨⟨_, rfl⟩, .inr ⟨_, by rw [HPRE.out, HEL.out]; simp, hjx3⟩⟩
    · have hd : decide (0 < k) = false := by simpa using hk0
      have hd2 : decide ((0 : Int) < k) = false := by simp; omega
      have hnil : cs = [] := List.length_eq_zero_iff.1 (by rw [HL.out]; omega)
      have HE := hide (show J (eachL xo c bs) wr by rw [HPRE.out, hnil, eachL_nil, List.append_nil]; exact HJ2.out)
      clear hnil hk0
      go_wp2_with fail
      go_end0
      exact ⟨⟨_, rfl⟩, .inl HE.out⟩
end Go.Proofs.YtekbhfpdakhhkaaGreatDoor.Fr
namespace Go.Proofs.YtekbhfpdakhhkaaGreatDoor.Fr
set_option maxRecDepth 100000
open Go.RowKit Go.Proofs.YtekbhfpdakhhkaaGreatDoor.Var Go.Proofs.YtekbhfpdakhhkaaGreatDoor.Crc
attribute [local go_sem] Oper.semAt_some
theorem infoR : (Tryz.prog.info? 39).map (fun i => (i.zero, i.size, i.bytes)) = some (some (.slice none 0 0), 1, 24) := by kernel_rfl

/-- A slice of slices of bytes, as it reads. -/
def ReadsRows (w : World) (v : Value) (ls : List (List UInt8)) : Prop := ∃ ao cap, v = .slice ao ls.length cap ∧ ls.length ≤ cap ∧ cap ≤ maxLen ∧ ∀ (i : Nat) (l : List UInt8), ls[i]? = some l → ∃ (b off : Nat) (xo : Option Addr) (n c : Nat), ao = some ⟨b, off, none⟩ ∧ w.cell? ⟨b, off + i, none⟩ = some (.slice xo n c) ∧ SrcAt w xo n c (l.map u8v) 1 ∧ n ≤ c ∧ c ≤ maxLen
theorem ReadsRows.upd {w w' : World} {v : Value} {ls : List (List UInt8)} (h : ReadsRows w v ls) (hu : Upd [] w w') : ReadsRows w' v ls := by
  obtain ⟨ao, cap, rfl, h1, h2, h3⟩ := h
  refine ⟨ao, cap, rfl, h1, h2, fun i l hi => ?_⟩
  obtain ⟨b, off, xo, n, c, e, hc, hs, hn⟩ := h3 i l hi
  refine ⟨b, off, xo, n, c, e, ?_, src_upd_nil hs hu, hn⟩
  rw [← hc]
  have := hu.block b (World.block_lt_of_cell? w ⟨b, off + i, none⟩ hc) (by simp)
  simp only [World.cell?, this]
/-- The same, where the rows are the call's own: blocks from base on. -/
structure OwnRows (w : World) (base : Nat) (v : Value) (ls : List (List UInt8)) (vs : List Value) : Prop where
  row : w.ownsRow base 39 1 v ls.length vs
  cell : ∀ (i : Nat) (l : List UInt8), ls[i]? = some l → ∃ (xo : Option Addr) (n c : Nat), vs[i]? = some (Value.slice xo n c) ∧ SrcAt w xo n c (l.map u8v) 1 ∧ n ≤ c ∧ c ≤ maxLen ∧ (∀ a, xo = some a → n ≠ 0 → base ≤ a.block ∧ v.ownBlock ≠ some a.block)
theorem OwnRows.reads {w : World} {base : Nat} {v : Value} {ls : List (List UInt8)} {vs : List Value} (h : OwnRows w base v ls vs) : ReadsRows w v ls := by
  obtain ⟨ao, cap, rfl, h1, h2, h3⟩ := owns_slice h.row
  refine ⟨ao, cap, rfl, h1, h2, fun i l hi => ?_⟩
  obtain ⟨xo, n, c, hv, hs, hn, hc, -⟩ := h.cell i l hi
  obtain ⟨g, rfl, -, -, hcell⟩ := h3 i _ hv
  exact ⟨g, 0, xo, n, c, rfl, by rw [Nat.zero_add]; exact hcell, hs, hn, hc⟩
theorem OwnRows.mono {w : World} {b0 base : Nat} {v : Value} {ls : List (List UInt8)} {vs : List Value} (h : OwnRows w base v ls vs) (hb : b0 ≤ base) : OwnRows w b0 v ls vs := by
  refine ⟨⟨h.row.1, ?_⟩, fun i l hi => ?_⟩
  · rcases h.row.2 with h1 | ⟨g, cap, cur, h1, h2, h3⟩
    · exact .inl h1
    · exact .inr ⟨g, cap, cur, h1, Nat.le_trans hb h2, h3⟩
  · obtain ⟨xo, n, c, h1, h2, h3, h4, h5⟩ := h.cell i l hi
    exact ⟨xo, n, c, h1, h2, h3, h4, fun a e h0 => ⟨Nat.le_trans hb (h5 a e h0).1, (h5 a e h0).2⟩⟩
theorem OwnRows.upd {S : List Nat} {w w' : World} {base : Nat} {v : Value} {ls : List (List UInt8)} {vs : List Value} (h : OwnRows w base v ls vs) (hu : Upd S w w') (hS : ∀ k, k ∈ S → k < base) : OwnRows w' base v ls vs := by
  refine ⟨owns_upd h.row hu (fun k hk hm => ?_), fun i l hi => ?_⟩
  · have := (owns_lt h.row k hk).1
    have := hS k hm
    omega
  · obtain ⟨xo, n, c, h1, h2, h3, h4, h5⟩ := h.cell i l hi
    exact ⟨xo, n, c, h1, src_upd h2 hu (fun a e h0 hm => by have := (h5 a e h0).1; have := hS _ hm; omega), h3, h4, h5⟩

/-- A row more. -/
theorem OwnRows.snoc {w3 w4 w6 : World} {B : Nat} {v0 v4 v6 : Value} {ls : List (List UInt8)} {vs : List Value} {ins : List UInt8} {o : Obj} (h : OwnRows w3 B v0 ls vs) (hB : B ≤ w3.heap.size) (u4 : Upd [] w3 w4)
    (o4 : w4.ownsRow w3.heap.size 5 1 v4 ins.length (ins.map u8v)) (u6 : Upd v0.ownBlock.toList (w4.alloc o) w6) (o6 : w6.ownsRow B 39 1 v6 (ls.length + 1) (vs ++ [v4]))
    (n6 : ∀ g, v6.ownBlock = some g → v0.ownBlock = some g ∨ w4.heap.size + 1 ≤ g) : OwnRows w6 B v6 (ls ++ [ins]) (vs ++ [v4]) := by
  have hvl : vs.length = ls.length := by have := h.row.1; simpa using this
  refine ⟨by simpa using o6, fun i l hi => ?_⟩
  rw [List.getElem?_append] at hi
  split at hi
  · rename_i hlt
    obtain ⟨xo, n, c, h1, h2, h3, h4, h5⟩ := h.cell i l hi
    refine ⟨xo, n, c, by rw [List.getElem?_append_left (by omega)]; exact h1, ?_, h3, h4, fun a e h0 => ⟨(h5 a e h0).1, fun h6 => ?_⟩⟩
    · refine src_upd (src_upd_nil h2 (u4.alloc o)) u6 (fun a e h0 hm => ?_)
      simp only [Option.mem_toList] at hm
      exact (h5 a e h0).2 hm
    · rcases n6 _ h6 with h7 | h7
      · exact (h5 a e h0).2 h7
      · subst e
        have hlen := h2.len
        simp only [List.length_map, Nat.mul_one] at hlen
        obtain ⟨b, off, e2, hc⟩ := src_at (j := 0) h2 (by omega)
        cases e2
        have h8 := World.block_lt_of_cell? w3 ⟨b, off + 0, none⟩ hc
        have h9 : w3.heap.size ≤ w4.heap.size := u4.size
        have h10 : w4.heap.size + 1 ≤ b := h7
        have h11 : b < w3.heap.size := h8
        omega
  · rename_i hge
    obtain ⟨hi0, rfl⟩ : i - ls.length = 0 ∧ l = ins := by
      rcases hq : i - ls.length with _ | j
      · rw [hq] at hi; simp at hi; exact ⟨rfl, hi.symm⟩
      · rw [hq] at hi; simp at hi
    have hil : i = ls.length := by omega
    have o4' := o4
    obtain ⟨ao4, cap4, rfl, h1, h2, -⟩ := owns_slice o4
    have hlt4 := owns_lt o4
    refine ⟨ao4, l.length, cap4, by rw [List.getElem?_append_right (by omega), hil, hvl]; simp, ?_, h1, h2, fun a e _ => ⟨?_, fun h6 => ?_⟩⟩
    · refine src_upd ((src_own o4' (by simp [u8v, Value.oneCell'])) |> fun h => src_upd_nil h ((Upd.refl [] w4).alloc o)) u6 (fun a e _ hm => ?_)
      simp only [Option.mem_toList] at hm
      have := (owns_lt h.row _ hm).2
      have := (hlt4 a.block (by rw [e]; rfl)).1
      omega
    · have := (hlt4 a.block (by rw [e]; rfl)).1
      omega
    · have h10 := hlt4 a.block (by rw [e]; rfl)
      rcases n6 _ h6 with h7 | h7
      · have := (owns_lt h.row _ h7).2
        omega
      · omega

/-- What is yielded lies in the bytes. -/
theorem each_src {w : World} (n : Nat) : ∀ (bs : List UInt8) (xo : Option Addr) (m c : Nat), bs.length ≤ n → SrcAt w xo m c (bs.map u8v) 1 → m ≤ c → ∀ x ∈ eachL xo c bs, x.2.2 = 0 → SrcAt w x.1 x.2.1.length x.2.1.length (x.2.1.map u8v) 1 := by
  induction n with
  | zero =>
    intro bs xo m c h _ _ x hx
    have : bs = [] := List.length_eq_zero_iff.1 (by omega)
    subst this
    rw [eachL_nil] at hx
    cases hx
  | succ n ih =>
    intro bs xo m c h hs hmc x hx hx0
    have hlen : bs.length = m := by have := hs.len; simpa using this
    by_cases h0 : bs = []
    · subst h0; rw [eachL_nil] at hx; cases hx
    · by_cases he : (take bs).2.2 = 0
      · have hl := take_len he
        obtain ⟨t1, t2, t3, t4, t5⟩ := take_ok (bs := bs) (x := (take bs).1) (n := (take bs).2.1) (by rw [← he])
        rw [fr_len] at t5
        rw [eachL_ok h0 he] at hx
        rcases List.mem_cons.1 hx with rfl | hx
        · have h1 := src_cut (l := (take bs).2.1 - (take bs).1.length) (h := (take bs).2.1) (q := (take bs).2.1) hs (by omega) (by omega) (Nat.le_refl _) (by omega)
          have e1 : (take bs).2.1 - ((take bs).2.1 - (take bs).1.length) = (take bs).1.length := by omega
          rw [e1] at h1
          have e2 : (bs.drop ((take bs).2.1 - (take bs).1.length)).take (take bs).1.length = (take bs).1 := by
            have h2 := congrArg (List.drop ((take bs).2.1 - (take bs).1.length)) t4
            rw [List.drop_take, e1] at h2
            rw [h2]
            have e3 : (take bs).2.1 - (take bs).1.length = (uv (take bs).1.length ++ le4 (Crc.sum (take bs).1)).length := by
              simp only [List.length_append, le4_len]; omega
            rw [e3]
            unfold fr
            rw [List.drop_left]
          rw [e2] at h1
          exact h1
        · have h1 := src_cut (l := (take bs).2.1) (h := m) (q := c) hs (by omega) (Nat.le_refl _) hmc (Nat.le_refl _)
          rw [List.take_of_length_le (by simp; omega)] at h1
          exact ih _ _ _ _ (by simp; omega) h1 (by omega) x hx hx0
      · rw [eachL_err h0 he] at hx
        simp only [List.mem_singleton] at hx
        subst hx
        exact absurd hx0 he

/-- How many bytes frames with these insides have. -/
def fsum : List Fy → Nat
  | [] => 0
  | x :: r => (fr x.2.1).length + fsum r
theorem fsum_append (a b : List Fy) : fsum (a ++ b) = fsum a + fsum b := by
  induction a with
  | nil => simp [fsum]
  | cons x a ih => simp only [List.cons_append, fsum, ih]; omega
theorem all_each (n : Nat) : ∀ (bs : List UInt8) (xo : Option Addr) (c : Nat), bs.length ≤ n →
    (∀ pre last, pre ++ [last] <+: eachL xo c bs → last.2.2 ≠ 0 → all bs = (pre.map (·.2.1), fsum pre, last.2.2)) ∧
    ((∀ x ∈ eachL xo c bs, x.2.2 = 0) → all bs = ((eachL xo c bs).map (·.2.1), fsum (eachL xo c bs), 0)) ∧
    (∀ pre, pre <+: eachL xo c bs → (∀ x ∈ pre, x.2.2 = 0) → fsum pre ≤ bs.length ∧ pre.length ≤ bs.length ∧ ∀ x ∈ pre, x.2.1.length ≤ 65536) := by
  induction n with
  | zero =>
    intro bs xo c h
    have : bs = [] := List.length_eq_zero_iff.1 (by omega)
    subst this
    rw [eachL_nil]
    refine ⟨fun pre last h => by simp at h, fun _ => rfl, fun pre h _ => ?_⟩
    obtain rfl := List.prefix_nil.1 h
    simp [fsum]
  | succ n ih =>
    intro bs xo c h
    by_cases h0 : bs = []
    · subst h0
      rw [eachL_nil]
      refine ⟨fun pre last h => by simp at h, fun _ => rfl, fun pre h _ => ?_⟩
      obtain rfl := List.prefix_nil.1 h
      simp [fsum]
    · by_cases he : (take bs).2.2 = 0
      · have hl := take_len he
        obtain ⟨t1, t2, t3, t4, t5⟩ := take_ok (bs := bs) (x := (take bs).1) (n := (take bs).2.1) (by rw [← he])
        obtain ⟨i1, i2, i3⟩ := ih (bs.drop (take bs).2.1) (cutAt xo (take bs).2.1 c) (c - (take bs).2.1) (by simp; omega)
        rw [eachL_ok h0 he, all_ok h0 he]
        refine ⟨fun pre last hp hle => ?_, fun hall => ?_, fun pre hp hall => ?_⟩
        · cases pre with
          | nil =>
            simp only [List.nil_append, List.cons_prefix_cons] at hp
            rw [hp.1] at hle
            exact absurd rfl hle
          | cons y pre =>
            simp only [List.cons_append, List.cons_prefix_cons] at hp
            obtain ⟨rfl, hp⟩ := hp
            rw [i1 pre last hp hle]
            simp only [List.map_cons, fsum, t5]
        · rw [i2 (fun x hx => hall x (List.mem_cons_of_mem _ hx))]
          simp only [List.map_cons, fsum, t5]
        · cases pre with
          | nil => simp [fsum]
          | cons y pre =>
            simp only [List.cons_prefix_cons] at hp
            obtain ⟨rfl, hp⟩ := hp
            obtain ⟨j1, j2, j3⟩ := i3 pre hp (fun x hx => hall x (List.mem_cons_of_mem _ hx))
            simp only [List.length_drop] at j1 j2
            refine ⟨by simp only [fsum]; omega, by simp only [List.length_cons]; omega, fun x hx => ?_⟩
            rcases List.mem_cons.1 hx with rfl | hx
            · exact t3
            · exact j3 x hx
      · rw [eachL_err h0 he, all_err h0 he]
        refine ⟨fun pre last hp hle => ?_, fun hall => ?_, fun pre hp hall => ?_⟩
        · have hpl := hp.length_le
          simp at hpl
          subst hpl
          simp only [List.nil_append, List.cons_prefix_cons] at hp
          rw [hp.1]
          rfl
        · exact absurd (hall (none, [], (take bs).2.2) (by simp)) he
        · cases pre with
          | nil => simp [fsum]
          | cons y pre =>
            simp only [List.cons_prefix_cons] at hp
            have := hall y (by simp)
            rw [hp.1] at this
            exact absurd this he

/-- No error among these. -/
def NoErr (l : List Fy) : Prop := ∀ x ∈ l, x.2.2 = 0
/-- What lies in All's boxes behind frames that were told. -/
structure Told (w W : World) (B : Nat) (pre : List Fy) (e : Int) : Prop where
  upd : Upd [] w W
  out : ∃ ao cap vs, W.heap[w.heap.size]? = some (.cells #[.slice ao pre.length cap] 65 (0, 0)) ∧ OwnRows W B (.slice ao pre.length cap) (pre.map (·.2.1)) vs
  sum : W.heap[w.heap.size + 1]? = some (.cells #[.int .i64 (fsum pre : Nat)] 3 (0, 0))
  bad : W.heap[w.heap.size + 2]? = some (.cells #[.int .i64 e] 43 (0, 0))
theorem Told.step {w W W' : World} {B : Nat} {pre : List Fy} {e : Int} {S : List Nat} (h : Told w W B pre e) (hu : Upd S W W') (hS : ∀ k, k ∈ S → w.heap.size + 3 ≤ k ∧ k < B) : Told w W' B pre e := by
  obtain ⟨ao, cap, vs, h1, h2⟩ := h.out
  exact ⟨h.upd.trans_new hu (fun k hk => .inr (by have := hS k hk; omega)), ⟨ao, cap, vs, hu.get h1 (fun hk => by have := hS _ hk; omega), h2.upd hu (fun k hk => (hS k hk).2)⟩,
    hu.get h.sum (fun hk => by have := hS _ hk; omega), hu.get h.bad (fun hk => by have := hS _ hk; omega)⟩

/-- An error has ended the range. -/
def Broke (w W : World) (B : Nat) (pre : List Fy) : Prop := ∃ init last, pre = init ++ [last] ∧ NoErr init ∧ last.2.2 ≠ 0 ∧ Told w W B init last.2.2
set_option maxRecDepth 100000 in
set_option maxHeartbeats 4000000 in
theorem all_any {xo : Option Addr} {m c : Nat} {bs : List UInt8} (w : World) (hst : TabAt w) (hs : SrcAt w xo m c (bs.map u8v) 1) (hmc : m ≤ c) (hc : c ≤ maxLen) (hm : m ≤ 1000000000000) :
    Calls Tryz.prog 57 #[.slice xo m c] w fun e w' => ∃ v vs, e = .returned (.tuple #[v, .int .i64 ((all bs).2.1 : Nat), .int .i64 (all bs).2.2]) ∧ OwnRows w' w.heap.size v (all bs).1 vs ∧ Upd [] w w' := by
  have HST := hide hst; have HS := hide hs
  have hlt : ∀ a, xo = some a → m ≠ 0 → a.block < w.heap.size := fun a e h0 => by
    obtain ⟨b, off, e2, h2⟩ := src_at (j := 0) hs (by omega)
    rw [e] at e2
    cases e2
    exact World.block_lt_of_cell? w ⟨b, off + 0, none⟩ h2
  have HLT := hide hlt
  clear hst hs hlt
  refine calls_of_wp_marks Tryz.func57 rfl ?_
  simp only [Tryz.ntmps57, List.size_toArray, List.length_cons, List.length_nil, Nat.reduceAdd, Nat.reduceSub, Array.replicate_succ, Array.replicate_zero, List.push_toArray, List.append_toArray, List.nil_append, List.cons_append]
  go_wp2_with fail
  go_step3
  go_wp2_with fail
  go_step3
  go_wp2_with fail
  refine (each_any _).mono ?_
  rintro e w1 ⟨rfl, hp1, hu1⟩
  have hb0 := hu1.get (blk_alloc (blk_alloc (blk_new w (.cells #[.slice none 0 0] 65)) (.cells #[.int .i64 0] 3)) (.cells #[.int .i64 0] 43)) (by simp)
  have hb1 := hu1.get (blk_alloc (blk_new (w.alloc (.cells #[.slice none 0 0] 65)) (.cells #[.int .i64 0] 3)) (.cells #[.int .i64 0] 43)) (by simp)
  have hb2 := hu1.get (blk_new ((w.alloc (.cells #[.slice none 0 0] 65)).alloc (.cells #[.int .i64 0] 3)) (.cells #[.int .i64 0] 43)) (by simp)
  have hu1' := ((((Upd.refl [] w).alloc (.cells #[.slice none 0 0] 65)).alloc (.cells #[.int .i64 0] 3)).alloc (.cells #[.int .i64 0] 43)).trans hu1
  simp only [World.size_alloc, Nat.add_assoc, Nat.reduceAdd] at hp1 hb0 hb1 hb2
  have hs1 := blk_lt hp1
  have U1 := hide hu1'; have P1 := hide hp1; have B0 := hide hb0; have B1 := hide hb1; have B2 := hide hb2
  clear hu1 hu1' hp1 hb0 hb1 hb2
  go_wp2_with fail
  have hlen : bs.length = m := by have := HS.out.len; simpa using this
  obtain ⟨a1, a2, a3⟩ := all_each bs.length bs xo c (Nat.le_refl _)
  have A1 := hide a1; have A2 := hide a2; have A3 := hide a3; have HL := hide hlen
  clear a1 a2 a3 hlen
  have hbk : ∀ k, k ∈ blkM m xo → k < w.heap.size := fun k hk => by
    unfold blkM at hk
    split at hk
    · cases hk
    · rename_i h0
      simp only [blkOf, List.mem_map, Option.mem_toList] at hk
      obtain ⟨a, ha, rfl⟩ := hk
      exact HLT.out a ha h0
  refine wp_range (gf := 103) rfl (enters_of Tryz.func103 (by kernel_rfl) rfl) (each_iter (p := w.heap.size + 3) (m := m) (c := c) (xo := xo) (bs := bs) hmc hc (by have := HST.out.lt; omega) (fun a e h0 => by have := HLT.out a e h0; omega)) (fun _ => rfl) ?hK (by simp; omega)
    (fun W hu => ⟨hu.get P1.out (by simp), src_upd_nil HS.out (U1.out.trans hu), HST.out.upd (U1.out.trans hu) (by simp)⟩)
    (fun pre W => NoErr pre ∧ Told w W (w1.heap.size + 2) pre 0)
    (fun cd pre W => cd = .exit 0 ∧ Broke w W (w1.heap.size + 2) pre) ?hI ?hIx ?h0 ?hround ?hdone ?hstop
  case hK =>
    intro k hk
    simp only [List.mem_cons] at hk
    rcases hk with rfl | rfl | hk
    · exact hs1
    · have := HST.out.lt; omega
    · have := hbk k hk; omega
  case hI =>
    rintro pre W1 W2 ⟨h1, h2⟩ hu
    exact ⟨h1, h2.step hu (by simp; omega)⟩
  case hIx =>
    rintro cd pre W1 W2 ⟨h1, h2⟩ hu
    obtain ⟨init, last, h2, h3, h4, h5⟩ := h2
    exact ⟨h1, init, last, h2, h3, h4, h5.step hu (by simp; omega)⟩
  case h0 =>
    intro W hu hsz
    refine ⟨fun x hx => by simp at hx, ⟨U1.out.trans hu, ⟨none, 0, [], hu.get B0.out (by simp), ⟨⟨rfl, .inl ⟨rfl, rfl⟩⟩, fun i l h => by simp at h⟩⟩, hu.get B1.out (by simp), hu.get B2.out (by simp)⟩⟩
  case hdone =>
    rintro W ⟨h1, hT⟩ hd
    obtain ⟨ao, cap, vs, hb0, hor⟩ := hT.out
    have hc0 := blk_cell (i := 0) hb0 rfl
    have hc1 := blk_cell (i := 0) hT.sum rfl
    have hc2 := blk_cell (i := 0) hT.bad rfl
    simp only [List.getElem_toArray, List.getElem_cons_zero] at hc0 hc1 hc2
    have T := hide hT; have H1 := hide h1; have OR := hide hor; have HD := hide hd
    clear hT h1 hor hb0 hd
    go_wp2_with fail
    go_quiet (fail)
    go_wp2_with fail
    rw [Exit.noGoto_ret]
    have hal := A2.out H1.out
    have hup : Upd [w1.heap.size] W ((W.drewN nq).putObj w1.heap.size (.deferred none)) := ((Upd.refl _ W).drewN nq).putObj (.inl (by simp)) _
    refine leaves_one (by exact HD.out) (by simp [results, Tryz.results57, go_sem]; rfl) ⟨_, vs, by rw [hal], ?_, T.out.upd.trans_new hup (by simp; omega)⟩
    rw [hal]
    have := OR.out.upd hup (by simp)
    exact this.mono (by omega)
  case hstop =>
    rintro cd pre W hpre ⟨rfl, hB⟩ hd
    obtain ⟨init, last, rfl, h1, h2, hT⟩ := hB
    obtain ⟨ao, cap, vs, hb0, hor⟩ := hT.out
    have hal := A1.out init last hpre h2
    have hc0 := blk_cell (i := 0) hb0 rfl
    have hc1 := blk_cell (i := 0) hT.sum rfl
    have hc2 := blk_cell (i := 0) hT.bad rfl
    simp only [List.getElem_toArray, List.getElem_cons_zero] at hc0 hc1 hc2
    have T := hide hT; have H1 := hide h1; have OR := hide hor; have HD := hide hd; have AL := hide hal
    clear hT h1 hor hb0 hd hpre h2 hal
    go_wp2_with fail
    go_quiet (fail)
    go_wp2_with fail
    rw [Exit.noGoto_ret]
    have hup : Upd [w1.heap.size] W ((W.drewN nq).putObj w1.heap.size (.deferred none)) := ((Upd.refl _ W).drewN nq).putObj (.inl (by simp)) _
    refine leaves_one (by exact HD.out) (by simp [results, Tryz.results57, go_sem]; rfl) ⟨_, vs, by rw [AL.out], ?_, T.out.upd.trans_new hup (by simp; omega)⟩
    rw [AL.out]
    have := OR.out.upd hup (by simp)
    exact this.mono (by omega)
  case hround =>
    rintro pre ⟨yo, ins, er⟩ W hpre hi hsz
    have HPRE := hide hpre
    clear hpre
    gi_wp2
    refine ⟨Keeps.refl _ _, fun W2 hu hi2 => ?_⟩
    obtain ⟨hok, hT⟩ := hi2 hi
    have hsz2 : w1.heap.size + 2 ≤ W2.heap.size := Nat.le_trans hsz hu.size
    clear hi hi2 hu hsz
    have hpe : pre ++ [(yo, ins, er)] <+: eachL xo c bs := HPRE.out
    by_cases her : er = 0
    · subst her
      have hall : NoErr (pre ++ [(yo, ins, (0 : Int))]) := fun x hx => by
        rcases List.mem_append.1 hx with h | h
        · exact hok x h
        · simp at h; rw [h]
      obtain ⟨b1, b2, b3⟩ := A3.out _ HPRE.out hall
      have hil := b3 (yo, ins, 0) (by simp)
      rw [fsum_append] at b1
      rw [HL.out] at b1 b2
      simp only [fsum, List.length_append, List.length_cons, List.length_nil, fr_len] at b1 b2 hil
      have hsum := hT.sum
      have hc1 := blk_cell (i := 0) hsum rfl
      have hf1 := blk_free (i := 0) hsum
      simp only [List.getElem_toArray, List.getElem_cons_zero] at hc1
      have T := hide hT; have HOK := hide hok; have HALL := hide hall
      clear hT hok hall hsum b3
      gi_wp2_with fail
      have hwn : IntKind.u64.wrap (ins.length : Int) = (ins.length : Int) := by rw [IntKind.wrap_u64]; omega
      have hw1 : IntKind.i64.wrap (((uv ins.length).length : Int) + 4) = ((uv ins.length).length : Int) + 4 := IntWalk.i64_in _ (by omega)
      have hw2 : IntKind.i64.wrap (((uv ins.length).length : Int) + 4 + ins.length) = ((uv ins.length).length : Int) + 4 + ins.length := IntWalk.i64_in _ (by omega)
      have hw3 : IntKind.i64.wrap ((fsum pre : Int) + (((uv ins.length).length : Int) + 4 + ins.length)) = (fsum pre : Int) + (((uv ins.length).length : Int) + 4 + ins.length) := IntWalk.i64_in _ (by omega)
      refine wpIn_region_z (fun w' => w'.cell? ⟨w.heap.size + 1, 0, none⟩ = some (.int .i64 (fsum pre : Nat))) 11 (by kernel_rfl) (by kernel_rfl) ?hq9 ?_
      case hq9 => exact fun ⟨_, _, h⟩ => h
      refine wpAnyZ_takeE 0 rfl (by kernel_rfl) (by kernel_rfl) (by kernel_rfl) (by kernel_rfl) (fun _ _ _ _ h => h) rfl (by exact hc1) ?_
      apply Exists.intro
      refine ⟨fun wx hS => ?_, ?_⟩
      · have s0 := hS; go_simp; rfl
      simp only [Act.put, List.setIfInBounds_toArray, List.set_cons_succ, List.set_cons_zero, List.getElem_toArray, List.getElem_cons_zero]
      refine wpAnyZ_takeE 1 rfl (by kernel_rfl) (by kernel_rfl) (by kernel_rfl) (by kernel_rfl) (fun _ _ _ _ h => h) rfl (by exact hc1) ?_
      apply Exists.intro
      refine ⟨fun wx hS => ?_, ?_⟩
      · have s0 := hS; go_simp; rfl
      simp only [Act.put, List.setIfInBounds_toArray, List.set_cons_succ, List.set_cons_zero, List.getElem_toArray, List.getElem_cons_succ, List.getElem_cons_zero]
      refine wpAnyZ_takeE 2 rfl (by kernel_rfl) (by kernel_rfl) (by kernel_rfl) (by kernel_rfl) (fun _ _ _ _ h => h) rfl (by exact hc1) ?_
      apply Exists.intro
      refine ⟨fun wx hS => ?_, ?_⟩
      · have s0 := hS; go_simp; rfl
      simp only [Act.put, List.setIfInBounds_toArray, List.set_cons_succ, List.set_cons_zero, List.getElem_toArray, List.getElem_cons_succ, List.getElem_cons_zero]
      refine wpAnyZ_takeE 3 rfl (by kernel_rfl) (by kernel_rfl) (by kernel_rfl) (by kernel_rfl) (fun _ _ _ _ h => h) rfl (by exact hc1) ?_
      apply Exists.intro
      refine ⟨fun wx hS => ?_, ?_⟩
      · have s0 := hS; go_simp; rfl
      simp only [Act.put, List.setIfInBounds_toArray, List.set_cons_succ, List.set_cons_zero, List.getElem_toArray, List.getElem_cons_succ, List.getElem_cons_zero]
      refine wpAnyZ_takeE 7 rfl (by kernel_rfl) (by kernel_rfl) (by kernel_rfl) (by kernel_rfl) (fun _ _ _ _ h => h) rfl (by exact hc1) ?_
      apply Exists.intro
      refine ⟨fun wx hS => ?_, ?_⟩
      · have s0 := hS; go_simp; rfl
      simp only [Act.put, List.setIfInBounds_toArray, List.set_cons_succ, List.set_cons_zero, List.getElem_toArray, List.getElem_cons_succ, List.getElem_cons_zero]
      refine wpAnyZ_takeE 8 rfl (by kernel_rfl) (by kernel_rfl) (by kernel_rfl) (by kernel_rfl) (fun _ _ _ _ h => h) rfl (by exact hc1) ?_
      apply Exists.intro
      refine ⟨fun wx hS => ?_, ?_⟩
      · have s0 := hS; go_simp; rfl
      simp only [Act.put, List.setIfInBounds_toArray, List.set_cons_succ, List.set_cons_zero, List.getElem_toArray, List.getElem_cons_succ, List.getElem_cons_zero]
      refine wpAnyZ_one 4 (by kernel_rfl) rfl rfl (fun K hK => ?_)
      try simp only [List.getElem_toArray, List.getElem_cons_succ, List.getElem_cons_zero]
      go_simp
      refine (uint_nil _ (by omega)).mono ?_
      rintro e w3 ⟨v, ao, cap, rfl, rfl, -, hu3⟩
      have T3 := hide (T.out.step ((Upd.refl [] W2).drewN 1 |>.trans hu3) (by simp))
      have U3 := hide ((Upd.refl [] W2).drewN 1 |>.trans hu3)
      have hc3 := blk_cell (i := 0) T3.out.sum rfl
      have hf3 := blk_free (i := 0) T3.out.sum
      simp only [List.getElem_toArray, List.getElem_cons_zero] at hc3
      clear hc1 hf1 hu3
      refine hK _ _ (.inr hc3) ?_
      clear hK K
      try simp only [Act.put, List.setIfInBounds_toArray, List.set_cons_succ, List.set_cons_zero]
      refine wpAnyZ_takeE 5 rfl (by kernel_rfl) (by kernel_rfl) (by kernel_rfl) (by kernel_rfl) (fun _ _ _ _ h => h) rfl (by exact hc3) ?_
      apply Exists.intro
      refine ⟨fun wx hS => ?_, ?_⟩
      · have s0 := hS; go_simp; rfl
      simp only [Act.put, List.setIfInBounds_toArray, List.set_cons_succ, List.set_cons_zero, List.getElem_toArray, List.getElem_cons_succ, List.getElem_cons_zero]
      refine wpAnyZ_takeE 6 rfl (by kernel_rfl) (by kernel_rfl) (by kernel_rfl) (by kernel_rfl) (fun _ _ _ _ h => h) rfl (by exact hc3) ?_
      apply Exists.intro
      refine ⟨fun wx hS => ?_, ?_⟩
      · have s0 := hS; go_simp; rfl
      simp only [Act.put, List.setIfInBounds_toArray, List.set_cons_succ, List.set_cons_zero, List.getElem_toArray, List.getElem_cons_succ, List.getElem_cons_zero]
      refine wpAnyZ_takeE 9 rfl (by kernel_rfl) (by kernel_rfl) (by kernel_rfl) (by kernel_rfl) (fun _ _ _ _ h => h) rfl (by exact hc3) ?_
      apply Exists.intro
      refine ⟨fun wx hS => ?_, ?_⟩
      · have s0 := hS; go_simp; rfl
      simp only [Act.put, List.setIfInBounds_toArray, List.set_cons_succ, List.set_cons_zero, List.getElem_toArray, List.getElem_cons_succ, List.getElem_cons_zero]
      refine wpAnyZ_takeE 10 rfl (by kernel_rfl) (by kernel_rfl) (by kernel_rfl) (by kernel_rfl) (fun _ _ _ _ h => h) rfl (by exact hc3) ?_
      apply Exists.intro
      refine ⟨fun wx hS => ?_, ?_⟩
      · have s0 := hS; go_simp; rfl
      simp only [Act.put, List.setIfInBounds_toArray, List.set_cons_succ, List.set_cons_zero, List.getElem_toArray, List.getElem_cons_succ, List.getElem_cons_zero]
      refine wpAnyZ_one 11 (by kernel_rfl) rfl rfl (fun K hK => ?_)
      try simp only [List.getElem_toArray, List.getElem_cons_succ, List.getElem_cons_zero]
      go_simp
      refine hK _ _ (.inl rfl) ?_
      clear hK K
      refine wpAnyZ_done (by kernel_rfl) ?_ _
      clear hwn hw1 hw2 hw3 hc3 hf3
      gi_wp2_with fail
      obtain ⟨ao0, cap0, vs, hb0, hor⟩ := T3.out.out
      have hb1' := blk_set (i := 0) T3.out.sum (.int .i64 ((fsum pre : Int) + (((uv ins.length).length : Int) + 4 + ins.length)))
      have hU4 : Upd [w.heap.size + 1] w3 (w3.setCell ⟨w.heap.size + 1, 0, none⟩ (.int .i64 ((fsum pre : Int) + (((uv ins.length).length : Int) + 4 + ins.length)))) := (Upd.refl _ _).setCell (.inl (by simp)) _
      simp only [List.setIfInBounds_toArray, List.set_cons_zero] at hb1'
      obtain ⟨W4, hW4⟩ : ∃ W4, w3.setCell ⟨w.heap.size + 1, 0, none⟩ (.int .i64 ((fsum pre : Int) + (((uv ins.length).length : Int) + 4 + ins.length))) = W4 := ⟨_, rfl⟩
      rw [hW4] at hb1' hU4 ⊢
      have hb0' := hU4.get hb0 (by simp)
      have hb2' := hU4.get T3.out.bad (by simp)
      have hor' := hor.upd hU4 (by simp; omega)
      have hu4 : Upd [] w W4 := T3.out.upd.trans_new hU4 (by simp)
      have hwz : w1.heap.size + 2 ≤ W4.heap.size := Nat.le_trans hsz2 (Nat.le_trans U3.out.size hU4.size)
      have hc0 := blk_cell (i := 0) hb0' rfl
      have hf0 := blk_free (i := 0) hb0'
      simp only [List.getElem_toArray, List.getElem_cons_zero] at hc0
      have hsrc := src_upd_nil (each_src bs.length bs xo m c (Nat.le_refl _) HS.out hmc (yo, ins, 0) (HPRE.out.subset (by simp)) rfl) (hu4.drewN 1)
      have OR := hide (hor'.upd ((Upd.refl [] W4).drewN 1) (by simp)); have B0' := hide hb0'; have B1' := hide hb1'; have B2' := hide hb2'; have U4 := hide hu4; have SR := hide hsrc
      have UU := hide ((U3.out.mono (T := [w.heap.size + 1]) (by simp)).trans hU4)
      clear hb0 hor hb1' hU4 hW4 hb0' hb2' hor' hu4 hsrc T3 U3
      obtain ⟨i0, hi, hz0, hz1, hz2⟩ := info_parts infoB
      obtain ⟨i1, hi1, hy0, hy1, hy2⟩ := info_parts infoR
      refine wpIn_region_z (fun w' => w'.cell? ⟨w.heap.size, 0, none⟩ = some (.slice ao0 pre.length cap0)) 5 (by kernel_rfl) (by kernel_rfl) ?hq8 ?_
      case hq8 => exact fun ⟨_, _, h⟩ => h
      refine wpAnyZ_takeE 0 rfl (by kernel_rfl) (by kernel_rfl) (by kernel_rfl) (by kernel_rfl) (fun _ _ _ _ h => h) rfl (by exact hc0) ?_
      apply Exists.intro
      refine ⟨fun wx hS => ?_, ?_⟩
      · have s0 := hS; go_simp; rfl
      simp only [Act.put, List.setIfInBounds_toArray, List.set_cons_succ, List.set_cons_zero, List.getElem_toArray, List.getElem_cons_zero]
      refine wpAnyZ_takeE 1 rfl (by kernel_rfl) (by kernel_rfl) (by kernel_rfl) (by kernel_rfl) (fun _ _ _ _ h => h) rfl (by exact hc0) ?_
      apply Exists.intro
      refine ⟨fun wx hS => ?_, ?_⟩
      · have s0 := hS; go_simp; rfl
      simp only [Act.put, List.setIfInBounds_toArray, List.set_cons_succ, List.set_cons_zero, List.getElem_toArray, List.getElem_cons_succ, List.getElem_cons_zero]
      refine wpAnyZ_one 2 (by kernel_rfl) rfl rfl (fun K hK => ?_)
      try simp only [List.getElem_toArray, List.getElem_cons_succ, List.getElem_cons_zero]
      refine wp_append_src _ _ _ 39 rfl W4.heap.size 5 i0 (.int .u8 0) 1 1 Tryz.underlying39 hi hz0 hz1 hz2 rfl (by decide) (.slice none 0 0) 0 [] rfl ⟨rfl, .inl ⟨rfl, rfl⟩⟩ yo ins.length ins.length (ins.map u8v) rfl SR.out (by unfold maxLen; omega) (by omega) (Nat.le_refl _) ?_
      intro ao4 cap4 w4 hown4 hU4 hn4
      have hU4' : Upd [] (W4.drewN 1) w4 := hU4
      simp only [Nat.zero_add, List.nil_append] at hown4 hn4
      have hc4 := blk_cell (i := 0) (hU4'.get (b := w.heap.size) B0'.out (by simp)) rfl
      have hf4 := blk_free (i := 0) (hU4'.get (b := w.heap.size) B0'.out (by simp))
      simp only [List.getElem_toArray, List.getElem_cons_zero] at hc4
      have BB4 := hide (hU4'.get (b := w.heap.size) B0'.out (by simp))
      have O4 := hide hown4; have UP4 := hide hU4'; have N4 := hide hn4
      clear hown4 hU4 hU4' hn4 hc0 hf0
      refine hK _ _ (.inr hc4) ?_
      clear hK K
      try simp only [Nat.zero_add, Act.put, List.setIfInBounds_toArray, List.set_cons_succ, List.set_cons_zero]
      refine wpAnyZ_one 3 (by kernel_rfl) rfl rfl (fun K hK => ?_)
      try simp only [List.getElem_toArray, List.getElem_cons_succ, List.getElem_cons_zero]
      go_simp
      refine hK _ _ (.inr (blk_cell (i := 0) (blk_alloc BB4.out _) rfl)) ?_
      clear hK K
      try simp only [Act.put, List.setIfInBounds_toArray, List.set_cons_succ, List.set_cons_zero]
      refine wpAnyZ_one 4 (by kernel_rfl) rfl rfl (fun K hK => ?_)
      try simp only [List.getElem_toArray, List.getElem_cons_succ, List.getElem_cons_zero]
      have hz4 : W4.heap.size ≤ w4.heap.size := UP4.out.size
      refine wp_append_src _ _ _ 65 rfl (w1.heap.size + 2) 39 i1 (.slice none 0 0) 1 24 Tryz.underlying65 hi1 hy0 hy1 hy2 rfl (by decide) (.slice ao0 pre.length cap0) pre.length vs rfl ?c1 (some ⟨w4.heap.size, 0, none⟩) 1 1 [.slice ao4 ins.length cap4] rfl (src_one (cell_new1 rfl) rfl) (by unfold maxLen; omega) (by omega) (by simp; omega) ?_
      case c1 =>
        have h1 := (OR.out.upd UP4.out (by simp)).row
        simp only [List.length_map] at h1
        exact h1.alloc _
      intro ao6 cap6 w6 hown6 hU6 hn6
      have hb6 := hU6.get (b := w.heap.size) (blk_alloc (UP4.out.get (b := w.heap.size) B0'.out (by simp)) _) (fun hm => by
        simp only [Option.mem_toList] at hm
        have := (owns_lt OR.out.row _ hm).1
        omega)
      have hc6 := blk_cell (i := 0) hb6 rfl
      have hf6 := blk_free (i := 0) hb6
      simp only [List.getElem_toArray, List.getElem_cons_zero] at hc6
      have O6 := hide hown6; have UP6 := hide hU6; have N6 := hide hn6; have BB6 := hide hb6
      clear hown6 hU6 hn6 hb6 hc4 hf4
      refine hK _ _ (.inr hc6) ?_
      clear hK K
      try simp only [Act.put, List.setIfInBounds_toArray, List.set_cons_succ, List.set_cons_zero]
      refine wpAnyZ_one 5 (by kernel_rfl) rfl rfl (fun K hK => ?_)
      try simp only [List.getElem_toArray, List.getElem_cons_succ, List.getElem_cons_zero]
      go_simp
      refine hK _ _ (.inl rfl) ?_
      clear hK K
      refine wpAnyZ_done (by kernel_rfl) ?_ _
      clear hc6 hf6
      gi_wp2_with fail
      have hown : ∀ k, (Value.slice ao0 pre.length cap0).ownBlock = some k → w1.heap.size + 2 ≤ k := fun k hk => (owns_lt OR.out.row k (by simpa using hk)).1
      have hUa : Upd (w.heap.size :: (w.heap.size + 1) :: (Value.slice ao0 pre.length cap0).ownBlock.toList) W2 (w6.setCell ⟨w.heap.size, 0, none⟩ (.slice ao6 (pre.length + 1) cap6)) :=
        ((((((UU.out.mono (by simp)).drewN 1).trans (UP4.out.mono (by simp))).alloc _).trans (UP6.out.mono (fun k hk => by simp only [Option.mem_toList, List.mem_cons] at hk ⊢; exact .inr (.inr hk))))).setCell (.inl (by simp)) _
      have hor6 := OwnRows.snoc OR.out (by simp; omega) UP4.out O4.out UP6.out (by simpa using O6.out) (fun g hg => by simpa using N6.out g hg)
      have hl1 : ∀ i, i < w1.heap.size → i ∉ (Value.slice ao0 pre.length cap0).ownBlock.toList := fun i hi hm => by
        simp only [Option.mem_toList] at hm
        have := hown _ hm
        omega
      refine ⟨Keeps.of_upd hUa (fun k hk => ?_), HALL.out, ⟨?_, ⟨ao6, cap6, vs ++ [.slice ao4 ins.length cap4], ?_, ?_⟩, ?_, ?_⟩⟩
      · have hg0 := HST.out.lt
        have hk2 : k < w1.heap.size + 2 ∧ k ≠ w.heap.size ∧ k ≠ w.heap.size + 1 := by
          simp only [List.mem_cons] at hk
          rcases hk with rfl | rfl | rfl | rfl | hk
          · omega
          · omega
          · omega
          · exact ⟨by omega, by omega, by omega⟩
          · have := hbk k hk; omega
        refine ⟨fun hm => ?_, by omega⟩
        simp only [List.mem_cons, Option.mem_toList] at hm
        rcases hm with h5 | h5 | h5
        · omega
        · omega
        · have := hown _ h5; omega
      · exact ((((U4.out.drewN 1).trans UP4.out).alloc _).trans_new UP6.out (fun k hk => by
          simp only [Option.mem_toList] at hk
          exact .inr (by have := hown _ hk; omega))).setCell (.inr (Nat.le_refl _)) _
      · have := blk_set (i := 0) BB6.out (.slice ao6 (pre.length + 1) cap6)
        simpa using this
      · have := hor6.upd ((Upd.refl [w.heap.size] w6).setCell (p := ⟨w.heap.size, 0, none⟩) (.inl (by simp)) (.slice ao6 (pre.length + 1) cap6)) (by simp; omega)
        simpa using this
      · have h5 := UP6.out.get (blk_alloc (UP4.out.get (b := w.heap.size + 1) B1'.out (by simp)) _) (hl1 _ (by omega))
        have h6 := blk_set_other (i := 0) h5 (c := w.heap.size) (by omega) (.slice ao6 (pre.length + 1) cap6)
        rw [fsum_append]
        simp only [fsum, fr_len, Nat.add_zero]
        rw [h6]
        simp only [Int.natCast_add]
        rfl
      · exact blk_set_other (i := 0) (UP6.out.get (blk_alloc (UP4.out.get (b := w.heap.size + 2) B2'.out (by simp)) _) (hl1 _ (by omega))) (c := w.heap.size) (by omega) (.slice ao6 (pre.length + 1) cap6)
    · have q1 : (er == 0) = false := by simpa using her
      have hc2 := blk_cell (i := 0) hT.bad rfl
      have hf2 := blk_free (i := 0) hT.bad
      simp only [List.getElem_toArray, List.getElem_cons_zero] at hc2
      have T := hide hT; have HOK := hide hok; have HER := hide her
      clear hT hok her hpe
      gi_wp2_with fail
      have hUa : Upd [w.heap.size + 2] W2 (W2.setCell ⟨w.heap.size + 2, 0, none⟩ (.int .i64 er)) := (Upd.refl _ _).setCell (.inl (by simp)) _
      refine ⟨Keeps.of_upd hUa (fun k hk => ?_), rfl, pre, (yo, ins, er), rfl, HOK.out, HER.out, ⟨T.out.upd.trans_new hUa (by simp), ?_, hUa.get T.out.sum (by simp), ?_⟩⟩
      · have hg0 := HST.out.lt
        have hk2 : k < w1.heap.size + 2 ∧ k ≠ w.heap.size + 2 := by
          simp only [List.mem_cons] at hk
          rcases hk with rfl | rfl | rfl | rfl | hk
          · omega
          · omega
          · omega
          · exact ⟨by omega, by omega⟩
          · have := hbk k hk; omega
        exact ⟨by simp; omega, by omega⟩
      · obtain ⟨ao, cap, vs, h1, h2⟩ := T.out.out
        exact ⟨ao, cap, vs, hUa.get h1 (by simp), h2.upd hUa (by simp; omega)⟩
      · have := blk_set (i := 0) T.out.bad (.int .i64 er)
        simpa using this
end Go.Proofs.YtekbhfpdakhhkaaGreatDoor.Fr
