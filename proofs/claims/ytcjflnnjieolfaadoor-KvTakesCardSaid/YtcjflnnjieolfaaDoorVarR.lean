/- varint.Reader: reading a number: what each call answers and what it leaves in memory. -/
import Derived.Test.YtcjflnnjieolfaaDoorVarM
import Derived.Test.YtcjflnnjieolfaaDoorSlCut
namespace Go.Proofs.YtcjflnnjieolfaaDoor.Var
open Go.RowKit Go.Proofs.YtcjflnnjieolfaaDoor.Crc
abbrev TR : TypeId := 86

/-- A reader in memory: its error, and what is left to read. -/
structure RdAt (w : World) (R : Nat) (e : Int) (xo : Option Addr) (m c : Nat) (lim : Int) : Prop where
  hR : w.heap[R]? = some (.cells #[.int .i64 e, .slice xo m c, .int .i64 lim] TR (0, 0))
namespace RdAt
variable {w w' : World} {R m c : Nat} {e lim : Int} {xo : Option Addr}
theorem c0 (h : RdAt w R e xo m c lim) : w.cell? ⟨R, 0, none⟩ = some (.int .i64 e) := blk_cell h.hR rfl
theorem c1 (h : RdAt w R e xo m c lim) : w.cell? ⟨R, 1, none⟩ = some (.slice xo m c) := blk_cell h.hR rfl
theorem c2 (h : RdAt w R e xo m c lim) : w.cell? ⟨R, 2, none⟩ = some (.int .i64 lim) := blk_cell h.hR rfl
theorem fr (h : RdAt w R e xo m c lim) (i : Nat) : w.frozen? ⟨R, i, none⟩ = false := blk_free h.hR
theorem upd {S : List Nat} (h : RdAt w R e xo m c lim) (hu : Upd S w w') (h1 : R ∉ S) : RdAt w' R e xo m c lim := ⟨hu.get h.hR h1⟩
theorem setE (h : RdAt w R e xo m c lim) (x : Int) : RdAt (w.setCell ⟨R, 0, none⟩ (.int .i64 x)) R x xo m c lim := ⟨blk_set h.hR _⟩
theorem setB (h : RdAt w R e xo m c lim) (yo : Option Addr) (n d : Nat) : RdAt (w.setCell ⟨R, 1, none⟩ (.slice yo n d)) R e yo n d lim := ⟨blk_set h.hR _⟩
end RdAt

set_option maxHeartbeats 400000 in
theorem new_any {xo : Option Addr} {m c : Nat} {lim : Int} (w : World) :
    Calls Tryd.prog 21 #[.slice xo m c, .int .i64 lim] w fun e w' => ∃ v, e = .returned v ∧ v = .pointer (some ⟨w.heap.size, 0, none⟩) ∧ RdAt w' w.heap.size 0 xo m c lim ∧ Upd [] w w' := by
  go_enter Tryd.func21, Tryd.ntmps21
  go_wp2_with fail
  go_ret
  exact ⟨_, rfl, rfl, ⟨blk_new _ _⟩, (Upd.refl _ _).alloc _⟩
set_option maxHeartbeats 400000 in
theorem err_any {R m c : Nat} {e lim : Int} {xo : Option Addr} (w : World) (h : RdAt w R e xo m c lim) :
    Calls Tryd.prog 40 #[.pointer (some ⟨R, 0, none⟩)] w fun en w' => en = .returned (.int .i64 e) ∧ w = w' := by
  have hc := h.c0
  clear h
  go_enter Tryd.func40, Tryd.ntmps40
  go_wp2_with fail
  go_ret
  exact ⟨rfl, rfl⟩
set_option maxHeartbeats 400000 in
theorem fail_any {R m c : Nat} {lim x : Int} {xo : Option Addr} (w : World) (h : RdAt w R 0 xo m c lim) :
    Calls Tryd.prog 42 #[.pointer (some ⟨R, 0, none⟩), .int .i64 x] w fun en w' => en = .returned (.tuple #[]) ∧ RdAt w' R x xo m c lim ∧ Upd [R] w w' := by
  have hc := h.c0
  have hf := h.fr 0
  have H := hide h
  clear h
  go_enter Tryd.func42, Tryd.ntmps42
  go_wp2_with fail
  go_end0
  exact ⟨rfl, H.out.setE x, (Upd.refl _ _).setCell (.inl (by simp)) _⟩
set_option maxHeartbeats 400000 in
theorem byte_short {R c : Nat} {lim : Int} {xo : Option Addr} (w : World) (h : RdAt w R 0 xo 0 c lim) :
    Calls Tryd.prog 64 #[.pointer (some ⟨R, 0, none⟩)] w fun en w' => en = .returned (.int .u8 0) ∧ RdAt w' R 10 xo 0 c lim ∧ Upd [R] w w' := by
  have hc0 := h.c0
  have hc1 := h.c1
  have H := hide h
  clear h
  go_enter Tryd.func64, Tryd.ntmps64
  go_wp2_with fail
  refine (fail_any _ H.out).mono ?_
  rintro e w1 ⟨rfl, h1, hu1⟩
  have H1 := hide h1; have U1 := hide hu1
  clear h1 hu1
  go_wp2_with fail
  go_ret
  exact ⟨rfl, H1.out, U1.out⟩
set_option maxHeartbeats 400000 in
theorem byte_any {R m c : Nat} {lim : Int} {xo : Option Addr} {bs : List UInt8} (w : World) (h : RdAt w R 0 xo m c lim) (hs : SrcAt w xo m c (bs.map u8v) 1) (hm : 0 < m) :
    Calls Tryd.prog 64 #[.pointer (some ⟨R, 0, none⟩)] w fun en w' => en = .returned (.int .u8 ((bs.getD 0 0).toNat : Nat)) ∧ RdAt w' R 0 (cutAt xo 1 c) (m - 1) (c - 1) lim ∧ Upd [R] w w' := by
  have hc0 := h.c0
  have hc1 := h.c1
  have hf1 := h.fr 1
  have H := hide h
  obtain ⟨b, off, hxo, hcell⟩ := src_at hs hm
  have hsl := run_cut_l (P := Tryd.prog) 23 5 Tryd.underlying23 sizeB xo m c 1 1 rfl hm
  have hd : decide ((m : Int) = 0) = false := by simp; omega
  have hd2 : ((m : Int) == 0) = false := by simp; omega
  simp only [Nat.add_zero] at hcell
  subst hxo
  clear h hs
  go_enter Tryd.func64, Tryd.ntmps64
  go_wp2_with fail
  go_ret
  exact ⟨rfl, H.out.setB _ _ _, (Upd.refl _ _).setCell (.inl (by simp)) _⟩

/-- A cut lies in the block of what is cut. -/
theorem cut_block {Q : Nat → Prop} {yo : Option Addr} {l d : Nat} (h : ∀ a, yo = some a → Q a.block) : ∀ a, cutAt yo l d = some a → Q a.block := by
  intro a ha
  unfold cutAt at ha
  split at ha
  · exact h a ha
  · cases yo with
    | none => cases ha
    | some a0 =>
      cases ha
      have := h a0 rfl
      unfold Addr.add
      split <;> simpa using this
/-- How a number is read: what is answered, and how the reader stands. -/
structure Read (w : World) (R : Nat) (T : Nat → Prop) (bs : List UInt8) (lim : Int) (en : Ending) (w' : World) : Prop where
  ans : en = .returned (.int .u64 ((rd bs).1 : Nat))
  upd : Upd [R] w w'
  rdr : ∃ xo m c, RdAt w' R (rd bs).2.2 xo m c lim ∧ ((rd bs).2.2 = 0 → SrcAt w' xo m c ((bs.drop (rd bs).2.1).map u8v) 1 ∧ m ≤ c ∧ ∀ a, xo = some a → m ≠ 0 → T a.block)
set_option maxRecDepth 100000 in
set_option maxHeartbeats 4000000 in
theorem uint_read {R m c : Nat} {T : Nat → Prop} {lim : Int} {xo : Option Addr} {bs : List UInt8} (w : World) (h : RdAt w R 0 xo m c lim) (hs : SrcAt w xo m c (bs.map u8v) 1) (hmc : m ≤ c) (hR : ∀ a, xo = some a → m ≠ 0 → a.block ≠ R ∧ T a.block) :
    Calls Tryd.prog 39 #[.pointer (some ⟨R, 0, none⟩)] w fun en w' => Read w R T bs lim en w' := by
  have H := hide h; have HS := hide hs; have HRR := hide hR
  have hlen : bs.length = m := by have := hs.len; simpa using this
  have HL := hide hlen
  clear h hs hlen hR
  go_enter Tryd.func39, Tryd.ntmps39
  go_wp2_with fail
  go_loopw [3, 4] (fun sn si wr => ∃ (k n : Nat) (yo : Option Addr) (d : Nat), k ≤ m ∧ k ≤ 9 ∧ si = .int .i64 k ∧ sn = .int .u64 n ∧ n = val (bs.take k) ∧ (∀ i, i < k → 128 ≤ (bs.getD i 0).toNat) ∧ Upd [R] w wr ∧ RdAt wr R 0 yo (m - k) d lim ∧ SrcAt wr yo (m - k) d ((bs.drop k).map u8v) 1 ∧ m - k ≤ d ∧ (∀ a, yo = some a → m - k ≠ 0 → a.block ≠ R ∧ T a.block)) (fun _ si _ => 10 - (intOf si).toNat)
  case atStart => exact ⟨0, 0, xo, c, by omega, by omega, rfl, rfl, by simp [val], by omega, Upd.refl _ _, H.out, HS.out, by omega, HRR.out⟩
  case round =>
    obtain ⟨k, n, yo, d, hk, hk9, rfl, rfl, hn, hhi, hu, hr, hs, hd, hyR⟩ := hrel
    have hnl : n < 128 ^ k := by
      rw [hn]
      have := val_lt (bs.take k)
      rwa [List.length_take, Nat.min_eq_left (by rw [HL.out]; exact hk)] at this
    have HN := hide hn; have HHI := hide hhi; have HU := hide hu; have HR := hide hr; have HS2 := hide hs; have HY := hide hyR
    clear hn hhi hu hr hs hyR H HS HRR
    have hd0 : decide ((k : Int) < 10) = true := by simp; omega
    by_cases hkm : k = m
    · have HR' : Hid (RdAt wr R 0 yo 0 d lim) := by
        have := HR.out
        rw [show m - k = 0 by omega] at this
        exact this
      have hle : lead bs = k := lead_eq HHI.out (by rw [HL.out]; exact hk) (fun h => by rw [HL.out] at h; omega)
      have hrd : rd bs = (0, 0, 10) := by
        unfold rd
        rw [if_neg (by have := HL.out; rw [hle]; omega), if_pos (by rw [hle, HL.out]; exact hkm)]
      have RD := hide hrd
      clear hle hrd hkm
      go_wp2_with fail
      refine (byte_short _ HR'.out).mono ?_
      rintro e w1 ⟨rfl, h1, hu1⟩
      have H1 := hide h1; have U1 := hide (HU.out.trans hu1)
      clear h1 hu1
      go_wp2_with fail
      refine (err_any _ H1.out).mono ?_
      rintro e w2 ⟨rfl, rfl⟩
      go_wp2_with fail
      go_ret
      exact ⟨by rw [RD.out]; rfl, U1.out, _, _, _, by rw [RD.out]; exact H1.out, by rw [RD.out]; intro h; simp at h⟩
    · have hlt : k < m := by omega
      obtain ⟨x, hx⟩ : ∃ x, (bs.getD k 0).toNat = x := ⟨_, rfl⟩
      have hx2 : ((bs.drop k).getD 0 0).toNat = x := by simpa [List.getD_eq_getElem?_getD, List.getElem?_drop] using hx
      have hxl : x < 256 := by rw [← hx]; exact UInt8.toNat_lt _
      have HX := hide hx; have HX2 := hide hx2
      clear hx hx2
      go_wp2_with fail
      refine (byte_any _ HR.out HS2.out (by omega)).mono ?_
      rw [HX2.out]
      rintro e w1 ⟨rfl, h1, hu1⟩
      have hs1 := src_upd HS2.out hu1 (fun a e h0 => by simpa using (HY.out a e h0).1)
      have hs2 := src_cut (l := 1) (h := m - k) (q := d) hs1 (by omega) (Nat.le_refl _) hd (Nat.le_refl _)
      have H1 := hide h1; have U1 := hide (HU.out.trans hu1); have S1 := hide hs2
      clear h1 hu1 hs1 hs2 HR HS2 HU
      go_wp2_with fail
      refine (err_any _ H1.out).mono ?_
      rintro e w2 ⟨rfl, rfl⟩
      have e1 : Go.bits .and .u8 (x : Int) 127 = ((x % 128 : Nat) : Int) := by
        rw [show (127 : Int) = ((127 : Nat) : Int) from rfl, u8_and_nat _ _ hxl (by decide), nat_mask7]
      obtain ⟨y, hy⟩ : ∃ y, x % 128 = y := ⟨_, rfl⟩
      rw [hy] at e1
      have hyl : y < 128 := by omega
      have HYY := hide hy
      clear hy
      obtain ⟨v, hv, hv2⟩ : ∃ v : Nat, Go.bits .or .u64 (n : Int) (IntKind.u64.wrap ((y : Int) * 2 ^ (7 * k))) = (v : Int) ∧ (k < 9 ∨ x ≤ 1 → v = val (bs.take (k + 1))) := by
        have hb : n < 2 ^ (7 * k) := by rw [Nat.pow_mul]; exact hnl
        have hkp : (2 : Nat) ^ (7 * k) ≤ 2 ^ 63 := Nat.pow_le_pow_right (by decide) (by omega)
        refine ⟨n ||| (y * 2 ^ (7 * k)) % 18446744073709551616, ?_, fun h => ?_⟩
        · rw [IntKind.wrap_u64, show ((y : Int) * 2 ^ (7 * k)) % 18446744073709551616 = (((y * 2 ^ (7 * k)) % 18446744073709551616 : Nat) : Int) by rw [Int.natCast_emod, Int.natCast_mul, Int.natCast_pow]; rfl]
          exact u64_or_nat _ _ (by omega) (Nat.mod_lt _ (by decide))
        · have hsm : y * 2 ^ (7 * k) < 18446744073709551616 := by
            rcases h with h | h
            · have h1 : y * 2 ^ (7 * k) ≤ 127 * 2 ^ (7 * k) := Nat.mul_le_mul_right _ (by omega)
              have h2 : (2 : Nat) ^ (7 * k) ≤ 2 ^ 56 := Nat.pow_le_pow_right (by decide) (by omega)
              omega
            · have h1 : y * 2 ^ (7 * k) ≤ 1 * 2 ^ (7 * k) := Nat.mul_le_mul_right _ (by have := HYY.out; omega)
              omega
          rw [Nat.mod_eq_of_lt hsm, Nat.or_comm, nat_join (7 * k) _ _ (Nat.mul_mod_left _ _) hb]
          have hbl : k < bs.length := by rw [HL.out]; exact hlt
          rw [take_snoc8 _ _ hbl, val_snoc, ← HN.out, HX.out, HYY.out, List.length_take, Nat.min_eq_left (by omega), show (2 : Nat) ^ (7 * k) = 128 ^ k from by rw [Nat.pow_mul]]
          omega
      have HV2 := hide hv2
      clear hv2
      by_cases c1 : k = 9 ∧ 1 < x
      · obtain ⟨h9, h1x⟩ := c1
        have q1 : ((k : Int) == 9) = true := by simp; omega
        have q2 : decide ((1 : Int) < x) = true := by simp; omega
        have hrd : rd bs = (0, 0, 11) := by
          unfold rd
          have := HX.out
          subst h9
          have hg := lead_ge HHI.out (by rw [HL.out]; exact hk)
          rw [if_pos]
          rcases Nat.lt_or_ge (lead bs) 10 with h | h
          · exact .inr ⟨by omega, by have := HL.out; omega, by omega⟩
          · exact .inl h
        have RD := hide hrd
        clear hrd h9
        go_wp2_with fail
        refine (fail_any _ H1.out).mono ?_
        rintro e w2 ⟨rfl, h2, hu2⟩
        have H2 := hide h2; have U2 := hide (U1.out.trans hu2)
        clear h2 hu2
        go_wp2_with fail
        go_ret
        exact ⟨by rw [RD.out]; rfl, U2.out, _, _, _, by rw [RD.out]; exact H2.out, by rw [RD.out]; intro h; simp at h⟩
      · by_cases c2 : 0 < k ∧ x = 0
        · obtain ⟨h0k, h0x⟩ := c2
          have q2 : decide ((1 : Int) < x) = false := by simp; omega
          have q3 : decide ((0 : Int) < k) = true := by simp; omega
          have q4 : ((x : Int) == 0) = true := by simp; omega
          have hrd : rd bs = (0, 0, 11) := by
            unfold rd
            have hx := HX.out
            have hbl := HL.out
            have hle : lead bs = k := lead_eq HHI.out (by omega) (fun _ => by omega)
            rw [hle, if_neg (by rintro (h | ⟨h, -, h'⟩); omega; subst h; omega), if_neg (by omega), if_pos ⟨h0k, by omega⟩]
          have RD := hide hrd
          clear hrd c1
          rcases Bool.eq_false_or_eq_true ((k : Int) == 9) with qk | qk
          all_goals
            go_wp2_with fail
            refine (fail_any _ H1.out).mono ?_
            rintro e w2 ⟨rfl, h2, hu2⟩
            have H2 := hide h2; have U2 := hide (U1.out.trans hu2)
            clear h2 hu2
            go_wp2_with fail
            go_ret
            exact ⟨by rw [RD.out]; rfl, U2.out, _, _, _, by rw [RD.out]; exact H2.out, by rw [RD.out]; intro h; simp at h⟩
        · have q1 : ((k : Int) == 9) = false ∨ ((k : Int) == 9) = true ∧ decide ((1 : Int) < x) = false := by
            by_cases h : k = 9
            · exact .inr ⟨by simp; omega, by simp; omega⟩
            · exact .inl (by simp; omega)
          have q3 : decide (0 < k) = false ∨ decide (0 < k) = true ∧ ((x : Int) == 0) = false := by
            by_cases h : 0 < k
            · exact .inr ⟨by simp; omega, by simp; omega⟩
            · exact .inl (by simp; omega)
          by_cases c3 : x < 128
          · have q5 : decide ((x : Int) < 128) = true := by simp; omega
            have hrd : rd bs = (v, k + 1, 0) := by
              have hx := HX.out
              have hbl := HL.out
              have hle : lead bs = k := lead_eq HHI.out (by omega) (fun _ => by omega)
              unfold rd
              rw [hle, if_neg (by rintro (h | ⟨h, -, h'⟩); omega; subst h; omega), if_neg (by omega), if_neg (by omega), HV2.out (by omega)]
            have RD := hide hrd
            have C1 := hide c1
            have C2 := hide c2
            clear hrd c1 c2
            rcases q1 with q1 | ⟨q1, q2⟩ <;> rcases q3 with q3 | ⟨q3, q4⟩
            all_goals
              go_wp2_with fail
              go_ret
              refine ⟨by rw [RD.out]; rfl, U1.out, _, _, _, by rw [RD.out]; exact H1.out, fun _ => ⟨?_, by omega, ?_⟩⟩
              · rw [RD.out]
                have := S1.out
                rw [List.take_of_length_le (by simp; have := HL.out; omega), List.drop_drop] at this
                exact this
              · exact fun a ha h0 => (cut_block (Q := fun b => b ≠ R ∧ T b) (fun a h => HY.out a h (by omega)) a ha).2
          · have q5 : decide ((x : Int) < 128) = false := by simp; omega
            have C1 := hide c1
            have C2 := hide c2
            have C3 := hide c3
            clear c1 c2 c3
            rcases q1 with q1 | ⟨q1, q2⟩ <;> rcases q3 with q3 | ⟨q3, q4⟩
            all_goals
              go_wp2_with fail
              go_roundw
              case rel =>
                have hbl := HL.out
                have h1 := C1.out
                have h3 := C3.out
                have hS := S1.out
                rw [List.take_of_length_le (by simp; omega), List.drop_drop] at hS
                refine ⟨k + 1, v, cutAt yo 1 d, d - 1, by omega, by omega, by go_num, rfl, HV2.out (by omega), fun i hi => ?_, U1.out, ?_, ?_, by omega, ?_⟩
                · by_cases hik : i = k
                  · subst hik; have := HX.out; omega
                  · exact HHI.out i (by omega)
                · have := H1.out
                  rw [show m - k - 1 = m - (k + 1) by omega] at this
                  exact this
                · rw [show m - (k + 1) = m - k - 1 by omega]
                  exact hS
                · exact fun a ha h0 => cut_block (Q := fun b => b ≠ R ∧ T b) (fun a h => HY.out a h (by omega)) a ha
              case measure => simp [intOf]; omega
end Go.Proofs.YtcjflnnjieolfaaDoor.Var
