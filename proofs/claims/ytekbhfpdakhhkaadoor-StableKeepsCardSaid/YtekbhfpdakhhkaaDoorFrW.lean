/- frame: sum, Put, Take: what each call answers and what it leaves in memory. -/
import Derived.Test.YtekbhfpdakhhkaaDoorCrcAll
import Derived.Test.YtekbhfpdakhhkaaDoorCrcW
import Derived.Test.YtekbhfpdakhhkaaDoorVarAll
import Derived.Test.YtekbhfpdakhhkaaDoorGenAll
import Derived.Test.YtekbhfpdakhhkaaDoorEq4
import Derived.IntWalk
namespace Go.Proofs.YtekbhfpdakhhkaaDoor.Fr
open Go.RowKit Go.Proofs.YtekbhfpdakhhkaaDoor.Var Go.Proofs.YtekbhfpdakhhkaaDoor.Crc

set_option maxHeartbeats 400000 in
theorem sum_any {xo : Option Addr} {m c : Nat} {bs : List UInt8} (w : World) (hst : TabAt w) (hs : SrcAt w xo m c (bs.map u8v) 1) (hm : m ≤ maxLen) :
    Calls Tryd.prog 91 #[.slice xo m c] w fun e w' => e = .returned (.agg ((le4 (Crc.sum bs)).map u8v).toArray) ∧ Upd [] w w' := by
  have HST := hide hst; have HS := hide hs
  clear hst hs
  go_enter Tryd.func91, Tryd.ntmps91
  go_wp2_with fail
  refine (Crc.sum_any _ (HST.out.upd ((Upd.refl [] w).alloc _) (by simp)) (src_upd_nil HS.out ((Upd.refl [] w).alloc _)) hm).mono ?_
  rintro e w1 ⟨rfl, hu1⟩
  have hb := hu1.get (blk_new w (.cells #[.int .u8 0, .int .u8 0, .int .u8 0, .int .u8 0] 141)) (by simp)
  have hc0 := blk_cell (i := 0) hb rfl
  have hc1 := blk_cell (i := 1) hb rfl
  have hc2 := blk_cell (i := 2) hb rfl
  have hc3 := blk_cell (i := 3) hb rfl
  have hf0 := blk_free (i := 0) hb
  have hf1 := blk_free (i := 1) hb
  have hf2 := blk_free (i := 2) hb
  have hf3 := blk_free (i := 3) hb
  simp only [List.getElem_toArray, List.getElem_cons_zero, List.getElem_cons_succ] at hc0 hc1 hc2 hc3
  have HU := hide (((Upd.refl [] w).alloc _).trans hu1); have HB := hide hb
  clear hu1 hb
  obtain ⟨s, hs⟩ : ∃ s, Crc.sum bs = s := ⟨_, rfl⟩
  rw [hs]
  have HE := hide hs
  clear hs
  go_wp2_with fail
  have hb4 := blk_set (i := 3) (blk_set (i := 2) (blk_set (i := 1) (blk_set (i := 0) HB.out (.int .u8 ((s : Int) % 256))) (.int .u8 ((s : Int) / 256 % 256))) (.int .u8 ((s : Int) / 65536 % 256))) (.int .u8 ((s : Int) / 16777216 % 256))
  have hq0 := blk_cell (i := 0) hb4 rfl
  have hq1 := blk_cell (i := 1) hb4 rfl
  have hq2 := blk_cell (i := 2) hb4 rfl
  have hq3 := blk_cell (i := 3) hb4 rfl
  simp only [List.setIfInBounds_toArray, List.set_cons_zero, List.set_cons_succ, List.getElem_toArray, List.getElem_cons_zero, List.getElem_cons_succ] at hq0 hq1 hq2 hq3
  have hv : ((le4 s).map u8v).toArray = #[.int .u8 ((s : Int) % 256), .int .u8 ((s : Int) / 256 % 256), .int .u8 ((s : Int) / 65536 % 256), .int .u8 ((s : Int) / 16777216 % 256)] := by
    simp only [le4, List.map_cons, List.map_nil, u8v]
    rw [ofNat8 (Nat.mod_lt _ (by decide)), ofNat8 (Nat.mod_lt _ (by decide)), ofNat8 (Nat.mod_lt _ (by decide)), ofNat8 (Nat.mod_lt _ (by decide))]
    simp only [Int.natCast_emod, Int.natCast_ediv]
    rfl
  rw [HE.out, hv]
  clear hc0 hc1 hc2 hc3
  refine bodyPost_ret (v := .agg #[.int .u8 ((s : Int) % 256), .int .u8 ((s : Int) / 256 % 256), .int .u8 ((s : Int) / 65536 % 256), .int .u8 ((s : Int) / 16777216 % 256)]) ?_ rfl ⟨rfl, (((HU.out.setCell (.inr (by simp)) _).setCell (.inr (by simp)) _).setCell (.inr (by simp)) _).setCell (.inr (by simp)) _⟩
  simp [results, Tryd.results91, go_sem, hq0, hq1, hq2, hq3]

/-- A number's bytes alone. -/
theorem uint_nil {n : Nat} (w : World) (hn : n < 18446744073709551616) :
    Calls Tryd.prog 61 #[.slice none 0 0, .int .u64 (n : Int)] w fun e w' => ∃ v ao cap, e = .returned v ∧ v = .slice ao (uv n).length cap ∧ w'.ownsRow w.heap.size 5 1 (.slice ao (uv n).length cap) (uv n).length ((uv n).map u8v) ∧ Upd [] w w' := by
  refine (uint_any (base := w.heap.size) (bs := []) w ⟨rfl, .inl ⟨rfl, rfl⟩⟩ (Nat.le_refl _) (by simp) hn).mono ?_
  rintro e w' ⟨v, rfl, h⟩
  have ho := h.own
  simp only [List.nil_append] at ho
  obtain ⟨ao, cap, rfl, -, -, -⟩ := owns_slice ho
  exact ⟨_, ao, cap, rfl, rfl, ho, h.upd⟩

/-- What Take answers, of bytes that lie at a slice. -/
def TakeSays (w : World) (xo : Option Addr) (bs : List UInt8) (e : Ending) (w' : World) : Prop :=
  Upd [] w w' ∧ (((take bs).2.2 ≠ 0 ∧ e = .returned (.tuple #[.slice none 0 0, .int .i64 0, .int .i64 (take bs).2.2])) ∨
    ((take bs).2.2 = 0 ∧ ∃ l n : Nat, n = (take bs).1.length ∧ l + n = (take bs).2.1 ∧ e = .returned (.tuple #[.slice (cutAt xo l (l + n)) n n, .int .i64 ((take bs).2.1 : Nat), .int .i64 0]) ∧ SrcAt w (cutAt xo l (l + n)) n n ((take bs).1.map u8v) 1))
set_option maxHeartbeats 4000000 in
theorem take_any {xo : Option Addr} {m c : Nat} {bs : List UInt8} (w : World) (hst : TabAt w) (hs : SrcAt w xo m c (bs.map u8v) 1) (hmc : m ≤ c) (hc : c ≤ maxLen) :
    Calls Tryd.prog 82 #[.slice xo m c] w fun e w' => TakeSays w xo bs e w' := by
  have HST := hide hst; have HS := hide hs
  have hlen : bs.length = m := by have := hs.len; simpa using this
  have HL := hide hlen
  have hlt : ∀ a, xo = some a → m ≠ 0 → a.block < w.heap.size := fun a e h0 => by
    obtain ⟨b, off, e2, h2⟩ := src_at (j := 0) hs (by omega)
    rw [e] at e2
    cases e2
    exact World.block_lt_of_cell? w ⟨b, off + 0, none⟩ h2
  have HLT := hide hlt
  clear hst hs hlen hlt
  go_enter Tryd.func82, Tryd.ntmps82
  go_wp2_with fail
  refine (new_any _).mono ?_
  rintro e w1 ⟨v, rfl, rfl, h1, hu1⟩
  have H1 := hide h1; have U1 := hide hu1
  clear h1 hu1
  go_wp2_with fail
  refine (uint_read (T := fun _ => True) _ H1.out (src_upd_nil HS.out U1.out) hmc (fun a e h0 => ⟨by have := HLT.out a e h0; omega, trivial⟩)).mono ?_
  rintro e w2 ⟨rfl, hu2, yo, d, q, h2, -⟩
  have U2 := hide (U1.out.trans_new hu2 (by simp)); 
  obtain ⟨n, k, er, hrd⟩ : ∃ n k er, rd bs = (n, k, er) := ⟨_, _, _, rfl⟩
  rw [hrd] at h2 ⊢
  have H2 := hide h2; have RD := hide hrd
  clear hu2 h2 hrd
  go_wp2_with fail
  refine (err_any _ H2.out).mono ?_
  rintro e w3 ⟨rfl, rfl⟩
  by_cases her : er = 0
  · subst her
    obtain ⟨hk0, hk10, hkl, huv, hn64⟩ := rd_ok RD.out rfl
    have hkk : (uv n).length = k := by rw [huv, List.length_take]; omega
    have HUV := hide huv; have HKK := hide hkk
    rw [HL.out] at hkl
    clear huv hkk
    go_wp2_with fail
    refine (uint_nil _ hn64).mono ?_
    rintro e w4 ⟨v, ao, cap, rfl, rfl, -, hu4⟩
    rw [HKK.out]
    have U4 := hide (U2.out.trans hu4)
    clear hu4
    by_cases hn0 : n = 0 ∨ 65536 < n
    · have HT : Hid (take bs = ([], 0, 11)) := by
        show take bs = ([], 0, 11)
        unfold take
        rw [RD.out, if_neg (by simp), if_pos hn0]
      have q0 : ((n : Int) == 0) = true ∨ ((n : Int) == 0) = false ∧ decide ((65536 : Int) < n) = true := by
        rcases hn0 with h | h
        · exact .inl (by simp; omega)
        · exact .inr ⟨by simp; omega, by simp; omega⟩
      clear hn0
      rcases q0 with q0 | ⟨q0, q1⟩
      all_goals
        go_wp2_with fail
        go_ret3
        exact ⟨U4.out, .inl ⟨by rw [HT.out]; simp, by rw [HT.out]; rfl⟩⟩
    · have q0 : ((n : Int) == 0) = false := by simp; omega
      have q1 : decide ((65536 : Int) < n) = false := by simp; omega
      have hnb : n ≤ 65536 := by omega
      have hnp : 0 < n := by omega
      by_cases hsh : m < k + 4 + n
      · have HT : Hid (take bs = ([], 0, 10)) := by
          show take bs = ([], 0, 10)
          unfold take
          rw [RD.out, if_neg (by simp), if_neg hn0, if_pos (by rw [HL.out]; exact hsh)]
        have q2 : decide ((m : Int) < k + 4 + n) = true := by simp; omega
        clear hn0
        go_wp2_with fail
        go_ret3
        exact ⟨U4.out, .inl ⟨by rw [HT.out]; simp, by rw [HT.out]; rfl⟩⟩
      · have q2 : decide ((m : Int) < k + 4 + n) = false := by simp; omega
        clear hn0
        unfold maxLen at hc
        have r1 := run_cut_lhm (P := Tryd.prog) 36 5 Tryd.underlying36 sizeB xo m c (k + 4) (k + 4 + n) (k + 4 + n) ((k : Int) + 4) ((k : Int) + 4 + n) ((k : Int) + 4 + n) (by omega) (by omega) (by omega) (by omega) (by omega) (by omega)
        rw [show k + 4 + n - (k + 4) = n from by omega] at r1
        have r2 := run_cut_lh (P := Tryd.prog) 36 5 Tryd.underlying36 sizeB xo m c k (k + 4) (k : Int) ((k : Int) + 4) (by omega) (by omega) (by omega) (by omega)
        rw [show k + 4 - k = 4 from by omega] at r2
        go_upto_region 12 with fail
        have hxn : xo ≠ none := fun h => by have := (HS.out.nil h).1; omega
        obtain ⟨a, ha⟩ : ∃ a, cutAt xo k c = some a := by
          cases h : cutAt xo k c with
          | none => exact absurd (cutAt_none.1 h) hxn
          | some a => exact ⟨a, rfl⟩
        rw [ha] at r2
        have harr : ∀ w', (Instr.arrayAt 141 (.slice (some a) 4 (c - k))).run Tryd.prog w' = .ok (.pointer (some a)) w' := fun w' => run_arrayAt (P := Tryd.prog) w' 141 5 4 (some a) 4 (c - k) Tryd.underlying141 (Nat.le_refl _)
        have hin := src_cut (l := k + 4) (h := k + 4 + n) (q := k + 4 + n) HS.out (by omega) (by omega) (by omega) (by omega)
        have hhd := src_cut (l := k) (h := k + 4) (q := c) HS.out (by omega) (by omega) (by omega) (by omega)
        rw [show k + 4 + n - (k + 4) = n by omega] at hin
        rw [ha, show k + 4 - k = 4 by omega] at hhd
        obtain ⟨ins, hins⟩ : ∃ ins, (bs.drop (k + 4)).take n = ins := ⟨_, rfl⟩
        obtain ⟨hd4, hhd4⟩ : ∃ hd4, (bs.drop k).take 4 = hd4 := ⟨_, rfl⟩
        rw [hins] at hin
        rw [hhd4] at hhd
        have hl4 : hd4.length = 4 := by have := hhd.len; simpa using this
        have hin4 := src_upd_nil hin (U4.out.drewN 1)
        have hh4 := src_upd_nil hhd (U4.out.drewN 1)
        obtain ⟨b, off, e0, c0⟩ := src_at (j := 0) hh4 (by omega)
        cases e0
        have hx : ∀ j, j < 4 → (w4.drewN 1).cell? ⟨b, off + j, none⟩ = some (.int .u8 ((hd4.getD j 0).toNat : Nat)) := fun j hj => by
          obtain ⟨b', off', e1, c1⟩ := src_at hh4 hj
          cases e1
          exact c1
        have hx0 := hx 0 (by decide)
        have hx1 := hx 1 (by decide)
        have hx2 := hx 2 (by decide)
        have hx3 := hx 3 (by decide)
        simp only [Nat.add_zero] at hx0
        obtain ⟨y0, hy0⟩ : ∃ y, (hd4.getD 0 0).toNat = y := ⟨_, rfl⟩
        obtain ⟨y1, hy1⟩ : ∃ y, (hd4.getD 1 0).toNat = y := ⟨_, rfl⟩
        obtain ⟨y2, hy2⟩ : ∃ y, (hd4.getD 2 0).toNat = y := ⟨_, rfl⟩
        obtain ⟨y3, hy3⟩ : ∃ y, (hd4.getD 3 0).toNat = y := ⟨_, rfl⟩
        rw [hy0] at hx0; rw [hy1] at hx1; rw [hy2] at hx2; rw [hy3] at hx3
        have HYS := hide (And.intro hy0 (And.intro hy1 (And.intro hy2 hy3)))
        have HL4 := hide hl4
        clear hy0 hy1 hy2 hy3 hl4 hx hh4 c0
        have HIN := hide hin; have HHD := hide hhd; have HINS := hide hins; have HHD4 := hide hhd4
        clear hin hhd hins hhd4 hxn r1
        have hwk : IntKind.i64.wrap (k : Int) = (k : Int) := IntWalk.i64_in _ (by omega)
        refine wp_region_z (fun w' => w'.cell? ⟨b, off, none⟩ = some (.int .u8 (y0 : Int)) ∧ w'.cell? ⟨b, off + 1, none⟩ = some (.int .u8 (y1 : Int)) ∧ w'.cell? ⟨b, off + 2, none⟩ = some (.int .u8 (y2 : Int)) ∧ w'.cell? ⟨b, off + 3, none⟩ = some (.int .u8 (y3 : Int))) 99 (by kernel_rfl) ?_
        refine wpAnyZ_takeE 0 rfl (by kernel_rfl) (by kernel_rfl) (by kernel_rfl) (by kernel_rfl) (fun _ _ _ _ h => h) rfl (by exact ⟨hx0, hx1, hx2, hx3⟩) ?_
        apply Exists.intro
        refine ⟨fun wx hS => ?_, ?_⟩
        · obtain ⟨s0, s1, s2, s3⟩ := hS; go_simp; rfl
        simp only [Act.put, List.setIfInBounds_toArray, List.set_cons_succ, List.set_cons_zero, List.getElem_toArray, List.getElem_cons_zero]
        refine wpAnyZ_takeE 2 rfl (by kernel_rfl) (by kernel_rfl) (by kernel_rfl) (by kernel_rfl) (fun _ _ _ _ h => h) rfl (by exact ⟨hx0, hx1, hx2, hx3⟩) ?_
        apply Exists.intro
        refine ⟨fun wx hS => ?_, ?_⟩
        · obtain ⟨s0, s1, s2, s3⟩ := hS; go_simp; rfl
        simp only [Act.put, List.setIfInBounds_toArray, List.set_cons_succ, List.set_cons_zero, List.getElem_toArray, List.getElem_cons_succ, List.getElem_cons_zero]
        refine wpAnyZ_takeE 3 rfl (by kernel_rfl) (by kernel_rfl) (by kernel_rfl) (by kernel_rfl) (fun _ _ _ _ h => h) rfl (by exact ⟨hx0, hx1, hx2, hx3⟩) ?_
        apply Exists.intro
        refine ⟨fun wx hS => ?_, ?_⟩
        · obtain ⟨s0, s1, s2, s3⟩ := hS; go_simp; rfl
        simp only [Act.put, List.setIfInBounds_toArray, List.set_cons_succ, List.set_cons_zero, List.getElem_toArray, List.getElem_cons_succ, List.getElem_cons_zero]
        refine wpAnyZ_takeE 4 rfl (by kernel_rfl) (by kernel_rfl) (by kernel_rfl) (by kernel_rfl) (fun _ _ _ _ h => h) rfl (by exact ⟨hx0, hx1, hx2, hx3⟩) ?_
        apply Exists.intro
        refine ⟨fun wx hS => ?_, ?_⟩
        · obtain ⟨s0, s1, s2, s3⟩ := hS; go_simp; rfl
        simp only [Act.put, List.setIfInBounds_toArray, List.set_cons_succ, List.set_cons_zero, List.getElem_toArray, List.getElem_cons_succ, List.getElem_cons_zero]
        refine wpAnyZ_takeE 5 rfl (by kernel_rfl) (by kernel_rfl) (by kernel_rfl) (by kernel_rfl) (fun _ _ _ _ h => h) rfl (by exact ⟨hx0, hx1, hx2, hx3⟩) ?_
        apply Exists.intro
        refine ⟨fun wx hS => ?_, ?_⟩
        · obtain ⟨s0, s1, s2, s3⟩ := hS; go_simp; rfl
        simp only [Act.put, List.setIfInBounds_toArray, List.set_cons_succ, List.set_cons_zero, List.getElem_toArray, List.getElem_cons_succ, List.getElem_cons_zero]
        refine wpAnyZ_takeE 6 rfl (by kernel_rfl) (by kernel_rfl) (by kernel_rfl) (by kernel_rfl) (fun _ _ _ _ h => h) rfl (by exact ⟨hx0, hx1, hx2, hx3⟩) ?_
        apply Exists.intro
        refine ⟨fun wx hS => ?_, ?_⟩
        · obtain ⟨s0, s1, s2, s3⟩ := hS; go_simp; rfl
        simp only [Act.put, List.setIfInBounds_toArray, List.set_cons_succ, List.set_cons_zero, List.getElem_toArray, List.getElem_cons_succ, List.getElem_cons_zero]
        refine wpAnyZ_takeE 7 rfl (by kernel_rfl) (by kernel_rfl) (by kernel_rfl) (by kernel_rfl) (fun _ _ _ _ h => h) rfl (by exact ⟨hx0, hx1, hx2, hx3⟩) ?_
        apply Exists.intro
        refine ⟨fun wx hS => ?_, ?_⟩
        · obtain ⟨s0, s1, s2, s3⟩ := hS; go_simp; rfl
        simp only [Act.put, List.setIfInBounds_toArray, List.set_cons_succ, List.set_cons_zero, List.getElem_toArray, List.getElem_cons_succ, List.getElem_cons_zero]
        refine wpAnyZ_takeE 8 rfl (by kernel_rfl) (by kernel_rfl) (by kernel_rfl) (by kernel_rfl) (fun _ _ _ _ h => h) rfl (by exact ⟨hx0, hx1, hx2, hx3⟩) ?_
        apply Exists.intro
        refine ⟨fun wx hS => ?_, ?_⟩
        · obtain ⟨s0, s1, s2, s3⟩ := hS; go_simp; rfl
        simp only [Act.put, List.setIfInBounds_toArray, List.set_cons_succ, List.set_cons_zero, List.getElem_toArray, List.getElem_cons_succ, List.getElem_cons_zero]
        refine wpAnyZ_one 1 (by kernel_rfl) rfl rfl (fun K hK => ?_)
        try simp only [List.getElem_toArray, List.getElem_cons_succ, List.getElem_cons_zero]
        go_simp
        refine (sum_any _ (HST.out.upd (U4.out.drewN 1) (by simp)) hin4 (by unfold maxLen; omega)).mono ?_
        rintro e w5 ⟨rfl, hu5⟩
        have hh5 := src_upd_nil HHD.out ((U4.out.drewN 1).trans hu5)
        have hx : ∀ j, j < 4 → w5.cell? ⟨b, off + j, none⟩ = some (.int .u8 ((hd4.getD j 0).toNat : Nat)) := fun j hj => by
          obtain ⟨b', off', e1, c1⟩ := src_at hh5 hj
          cases e1
          exact c1
        have hx0 := hx 0 (by decide)
        have hx1 := hx 1 (by decide)
        have hx2 := hx 2 (by decide)
        have hx3 := hx 3 (by decide)
        simp only [Nat.add_zero] at hx0
        obtain ⟨g0, g1, g2, g3⟩ := HYS.out
        rw [g0] at hx0; rw [g1] at hx1; rw [g2] at hx2; rw [g3] at hx3
        have hsv : ((le4 (Crc.sum ins)).map u8v).toArray = #[.int .u8 ((Crc.sum ins % 256 : Nat) : Int), .int .u8 ((Crc.sum ins / 256 % 256 : Nat) : Int), .int .u8 ((Crc.sum ins / 65536 % 256 : Nat) : Int), .int .u8 ((Crc.sum ins / 16777216 % 256 : Nat) : Int)] := by
          simp only [le4, List.map_cons, List.map_nil, u8v]
          rw [ofNat8 (Nat.mod_lt _ (by decide)), ofNat8 (Nat.mod_lt _ (by decide)), ofNat8 (Nat.mod_lt _ (by decide)), ofNat8 (Nat.mod_lt _ (by decide))]
        rw [hsv]
        obtain ⟨z0, hz0⟩ : ∃ z, Crc.sum ins % 256 = z := ⟨_, rfl⟩
        obtain ⟨z1, hz1⟩ : ∃ z, Crc.sum ins / 256 % 256 = z := ⟨_, rfl⟩
        obtain ⟨z2, hz2⟩ : ∃ z, Crc.sum ins / 65536 % 256 = z := ⟨_, rfl⟩
        obtain ⟨z3, hz3⟩ : ∃ z, Crc.sum ins / 16777216 % 256 = z := ⟨_, rfl⟩
        rw [hz0, hz1, hz2, hz3]
        have HZS := hide (And.intro hz0 (And.intro hz1 (And.intro hz2 hz3)))
        have U5 := hide ((U4.out.drewN 1).trans hu5)
        clear hsv hz0 hz1 hz2 hz3 g0 g1 g2 g3 hu5 hh5 hx
        refine hK _ _ (.inr ⟨hx0, hx1, hx2, hx3⟩) ?_
        clear hK K
        try simp only [Act.put, List.setIfInBounds_toArray, List.set_cons_succ, List.set_cons_zero]
        obtain ⟨bb, hbb, hq4⟩ : ∃ bb, ((z0 : Int) == y0 && (z1 : Int) == y1 && (z2 : Int) == y2 && (z3 : Int) == y3) = bb ∧ ∀ w', (Op.equalIn 10000 141 (.agg #[.int .u8 (z0 : Int), .int .u8 (z1 : Int), .int .u8 (z2 : Int), .int .u8 (z3 : Int)]) (.agg #[.int .u8 (y0 : Int), .int .u8 (y1 : Int), .int .u8 (y2 : Int), .int .u8 (y3 : Int)])).run Tryd.prog w' = .ok bb w' :=
          ⟨_, rfl, fun w' => run_eq4 9998 _ _ _ _ _ _ _ _ w'⟩
        have hbt : bb = true ↔ le4 (Crc.sum ins) = hd4 := by
          obtain ⟨g0, g1, g2, g3⟩ := HYS.out
          obtain ⟨k0, k1, k2, k3⟩ := HZS.out
          have l4 := HL4.out
          obtain ⟨p0, p1, p2, p3, rfl⟩ : ∃ p0 p1 p2 p3, hd4 = [p0, p1, p2, p3] := by
            match hd4, l4 with
            | [p0, p1, p2, p3], _ => exact ⟨p0, p1, p2, p3, rfl⟩
          simp only [List.getD_cons_zero, List.getD_cons_succ] at g0 g1 g2 g3
          rw [← hbb]
          simp only [Bool.and_eq_true, beq_iff_eq, le4, List.cons.injEq, and_true, ← UInt8.toNat_inj]
          rw [ofNat8 (Nat.mod_lt _ (by decide)), ofNat8 (Nat.mod_lt _ (by decide)), ofNat8 (Nat.mod_lt _ (by decide)), ofNat8 (Nat.mod_lt _ (by decide))]
          omega
        have HBT := hide hbt
        clear hbb hbt
        refine wpAnyZ_one 9 (by kernel_rfl) rfl rfl (fun K hK => ?_)
        try simp only [List.getElem_toArray, List.getElem_cons_succ, List.getElem_cons_zero]
        go_simp
        refine hK _ _ (.inr ⟨hx0, hx1, hx2, hx3⟩) ?_
        clear hK K
        try simp only [Act.put, List.setIfInBounds_toArray, List.set_cons_succ, List.set_cons_zero]
        refine wpAnyZ_done (by kernel_rfl) ?_ _
        have HT0 : Hid (¬ (n = 0 ∨ 65536 < n)) := by show ¬ (n = 0 ∨ 65536 < n); omega
        have HT1 : Hid (¬ bs.length < k + 4 + n) := by show ¬ bs.length < k + 4 + n; rw [HL.out]; exact hsh
        cases bb with
        | true =>
          have HT : Hid (take bs = (ins, k + 4 + n, 0)) := by
            show take bs = (ins, k + 4 + n, 0)
            unfold take
            simp only [RD.out, HINS.out, HHD4.out]
            rw [if_neg (by simp), if_neg HT0.out, if_neg HT1.out, if_neg (by simpa using HBT.out.1 rfl)]
          go_wp2_with fail
          go_ret3
          refine ⟨U5.out, .inr ⟨by rw [HT.out], k + 4, n, ?_, by rw [HT.out], ?_, ?_⟩⟩
          · rw [HT.out]; have := HIN.out.len; simpa using this.symm
          · rw [HT.out]; rfl
          · rw [HT.out]; exact HIN.out
        | false =>
          have HT : Hid (take bs = ([], 0, 12)) := by
            show take bs = ([], 0, 12)
            unfold take
            simp only [RD.out, HINS.out, HHD4.out]
            rw [if_neg (by simp), if_neg HT0.out, if_neg HT1.out, if_pos (fun h => by have := HBT.out.2 h; cases this)]
          go_wp2_with fail
          go_ret3
          exact ⟨U5.out, .inl ⟨by rw [HT.out]; simp, by rw [HT.out]; rfl⟩⟩
  · have q1 : (er == 0) = false := by simpa using her
    have HER := hide her
    clear her
    go_wp2_with fail
    go_ret3
    have HT : take bs = ([], 0, er) := by
      unfold take
      rw [RD.out, if_pos HER.out]
    exact ⟨U2.out, .inl ⟨by rw [HT]; exact HER.out, by rw [HT]; rfl⟩⟩
end Go.Proofs.YtekbhfpdakhhkaaDoor.Fr
