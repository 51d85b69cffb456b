/- quoratelaw15.VotesOrder returns true, and turns nothing that was there. -/
import Derived.Test.YtmedpbpjjjhhiaaVotMe
import Derived.Test.YtmedpbpjjjhhiaaZreg2
namespace Go.Proofs.Ytmedpbpjjjhhiaa.Vot
open Go.RowKit

/-- A slice of spans, as it reads. -/
def ArgSpans (w : World) (ao : Option Addr) (len : Nat) (f : Nat → Sp) : Prop := ∀ i, i < len → ∃ b off, ao = some ⟨b, off, none⟩ ∧ w.cell? ⟨b, off + i * 2, none⟩ = some (.int .u64 ((f i).1 : Int)) ∧ w.cell? ⟨b, off + i * 2 + 1, none⟩ = some (.int .u64 ((f i).2 : Int)) ∧ (f i).1 < 18446744073709551616 ∧ (f i).2 < 18446744073709551616
/-- A slice of numbers, as it reads. -/
def ArgWords (w : World) (ao : Option Addr) (len : Nat) (f : Nat → Nat) : Prop := ∀ i, i < len → ∃ b off, ao = some ⟨b, off, none⟩ ∧ w.cell? ⟨b, off + i, none⟩ = some (.int .u64 (f i : Int)) ∧ f i < 18446744073709551616
/-- Span i brings slot m to replica r. -/
def Brings (f : Nat → Sp) (r m i : Nat) : Prop := (f i).1 ≤ (f i).2 ∧ (f i).2 < 1099511627776 ∧ i % 3 = r ∧ max (f i).1 1 ≤ m ∧ m ≤ (f i).2
def Upper (f : Nat → Sp) (l : Nat → List Sp) (lo hi : Nat) : Prop := ∀ r, r < 3 → ∀ m, inS (l r) m ↔ ∃ i, lo ≤ i ∧ i < hi ∧ Brings f r m i
theorem Upper.skip {f : Nat → Sp} {l : Nat → List Sp} {k : Nat} (h : Upper f l 0 k) (hk : ¬ ((f k).1 ≤ (f k).2 ∧ (f k).2 < 1099511627776)) : Upper f l 0 (k + 1) := by
  intro r hr m
  rw [h r hr m]
  constructor
  · rintro ⟨i, h1, h2, h3⟩; exact ⟨i, h1, by omega, h3⟩
  · rintro ⟨i, h1, h2, h3⟩
    refine ⟨i, h1, ?_, h3⟩
    by_cases e : i = k
    · subst e; exact absurd ⟨h3.1, h3.2.1⟩ hk
    · omega
theorem Upper.step {f : Nat → Sp} {l : Nat → List Sp} {k : Nat} {d : List Sp} (h : Upper f l 0 k) (hk : (f k).1 ≤ (f k).2 ∧ (f k).2 < 1099511627776) (hd : ∀ m, inS d m ↔ inS (l (k % 3)) m ∨ (max (f k).1 (0 + 1) ≤ m ∧ m ≤ (f k).2)) : Upper f (fun r => if r = k % 3 then d else l r) 0 (k + 1) := by
  intro r hr m
  by_cases e : r = k % 3
  · simp only [if_pos e]
    rw [hd m, ← e, h r hr m]
    constructor
    · rintro (⟨i, h1, h2, h3⟩ | h1)
      · exact ⟨i, h1, by omega, h3⟩
      · exact ⟨k, by omega, by omega, hk.1, hk.2, e.symm, h1.1, h1.2⟩
    · rintro ⟨i, h1, h2, h3⟩
      by_cases e2 : i = k
      · subst e2; exact .inr ⟨h3.2.2.2.1, h3.2.2.2.2⟩
      · exact .inl ⟨i, h1, by omega, h3⟩
  · simp only [if_neg e]
    rw [h r hr m]
    constructor
    · rintro ⟨i, h1, h2, h3⟩; exact ⟨i, h1, by omega, h3⟩
    · rintro ⟨i, h1, h2, h3⟩
      refine ⟨i, h1, ?_, h3⟩
      by_cases e2 : i = k
      · subst e2; exact absurd h3.2.2.1.symm e
      · omega
theorem Upper.skipDown {f : Nat → Sp} {l : Nat → List Sp} {k n : Nat} (h : Upper f l (k + 1) n) (hk : ¬ ((f k).1 ≤ (f k).2 ∧ (f k).2 < 1099511627776)) : Upper f l k n := by
  intro r hr m
  rw [h r hr m]
  constructor
  · rintro ⟨i, h1, h2, h3⟩; exact ⟨i, by omega, h2, h3⟩
  · rintro ⟨i, h1, h2, h3⟩
    refine ⟨i, ?_, h2, h3⟩
    by_cases e : i = k
    · subst e; exact absurd ⟨h3.1, h3.2.1⟩ hk
    · omega
theorem Upper.stepDown {f : Nat → Sp} {l l' : Nat → List Sp} {k n : Nat} (h : Upper f l (k + 1) n) (hkn : k < n) (hk : (f k).1 ≤ (f k).2 ∧ (f k).2 < 1099511627776) (hother : ∀ r, r ≠ k % 3 → l' r = l r) (hd : ∀ m, inS (l' (k % 3)) m ↔ inS (l (k % 3)) m ∨ (max (f k).1 1 ≤ m ∧ m ≤ (f k).2)) : Upper f l' k n := by
  intro r hr m
  by_cases e : r = k % 3
  · subst e
    rw [hd m, h _ hr m]
    constructor
    · rintro (⟨i, h1, h2, h3⟩ | h1)
      · exact ⟨i, by omega, h2, h3⟩
      · exact ⟨k, by omega, hkn, hk.1, hk.2, rfl, h1.1, h1.2⟩
    · rintro ⟨i, h1, h2, h3⟩
      by_cases e2 : i = k
      · subst e2; exact .inr ⟨h3.2.2.2.1, h3.2.2.2.2⟩
      · exact .inl ⟨i, by omega, h2, h3⟩
  · rw [hother r e, h r hr m]
    constructor
    · rintro ⟨i, h1, h2, h3⟩; exact ⟨i, by omega, h2, h3⟩
    · rintro ⟨i, h1, h2, h3⟩
      refine ⟨i, ?_, h2, h3⟩
      by_cases e2 : i = k
      · subst e2; exact absurd h3.2.2.1.symm e
      · omega
theorem Upper.nil (f : Nat → Sp) (lo hi : Nat) (h : hi ≤ lo) : Upper f (fun _ => []) lo hi := by
  intro r hr m
  exact ⟨fun h => absurd h inS_nil, fun ⟨i, h1, h2, _⟩ => by omega⟩
theorem Tal.upto {w w' : World} {T C n floor K K' : Nat} {l : Nat → List Sp} (h : Tal w T C n floor K l w') (hk : K ≤ K') : Tal w T C n floor K' l w' :=
  ⟨⟨h.at_.hT, h.at_.hC, h.at_.loT, h.at_.loC, h.at_.n1, h.at_.n7, h.at_.fl, h.at_.norm, h.at_.bnd, fun r hr => Nat.le_trans (h.at_.len r hr) hk⟩, h.upd⟩
theorem join_iff {P : Prop} {a b c m : Nat} (h1 : a ≤ c) (h2 : c ≤ b) : ((P ∨ (max (c + 1) (0 + 1) ≤ m ∧ m ≤ b)) ∨ (max a (0 + 1) ≤ m ∧ m ≤ c)) ↔ P ∨ (max a 1 ≤ m ∧ m ≤ b) := by
  constructor
  · rintro ((h | h) | h)
    · exact .inl h
    · exact .inr (by omega)
    · exact .inr (by omega)
  · rintro (h | h)
    · exact .inl (.inl h)
    · by_cases h3 : m ≤ c
      · exact .inr (by omega)
      · exact .inl (.inr (by omega))
theorem row_get {e : TypeId} {w : World} {base : Nat} {v : Value} {l : List Sp} (h : w.ownsRow base e 2 v l.length (l.flatMap spc)) : ∃ ao cap, v = .slice ao l.length cap ∧ l.length ≤ cap ∧ cap ≤ maxLen ∧ ∀ i p, l[i]? = some p → ∃ g, ao = some ⟨g, 0, none⟩ ∧ base ≤ g ∧ g < w.heap.size ∧ w.cell? ⟨g, i * 2, none⟩ = some (.int .u64 (p.1 : Int)) ∧ w.cell? ⟨g, i * 2 + 1, none⟩ = some (.int .u64 (p.2 : Int)) := by
  obtain ⟨ao, cap, rfl, h1, h2, h3⟩ := owns_slice h
  refine ⟨ao, cap, rfl, h1, h2, fun i p hi => ?_⟩
  obtain ⟨h4, h5⟩ := spc_get hi
  obtain ⟨g, rfl, hg, hl, hc⟩ := h3 _ _ h4
  obtain ⟨g', e, -, -, hc'⟩ := h3 _ _ h5
  cases e
  exact ⟨g, rfl, hg, hl, hc, hc'⟩
/-- The cells of span i in two rows. -/
def Four (g1 g2 i : Nat) (p : Sp) (W : World) : Prop := W.cell? ⟨g1, i * 2, none⟩ = some (.int .u64 (p.1 : Int)) ∧ W.cell? ⟨g1, i * 2 + 1, none⟩ = some (.int .u64 (p.2 : Int)) ∧ W.cell? ⟨g2, i * 2, none⟩ = some (.int .u64 (p.1 : Int)) ∧ W.cell? ⟨g2, i * 2 + 1, none⟩ = some (.int .u64 (p.2 : Int))
theorem UptoIs.congr {n floor s u : Nat} {l k : Nat → List Sp} (h : UptoIs n floor l s u) (hl : ∀ r, r < n → l r = k r) : UptoIs n floor k s u := by
  have e : ∀ m, cnt (fun r => inb (l r) m) n = cnt (fun r => inb (k r) m) n := fun m => cnt_congr fun r hr => by simp only [hl r hr]
  exact ⟨h.1, h.2.1, fun m h1 h2 => by rw [← e]; exact h.2.2.1 m h1 h2, fun h1 => by rw [← e]; exact h.2.2.2 h1⟩
set_option maxRecDepth 100000 in
set_option maxHeartbeats 1000000 in
theorem order_long {ao bo : Option Addr} {len cap n c : Nat} (w : World) (h : 60 < len) : Calls Try.prog 5 #[.slice ao len cap, .slice bo n c] w fun e w' => e = .returned (.bool true) ∧ Upd [] w w' := by
  have q : decide ((60 : Int) < len) = true := by simp; omega
  clear h
  go_enter Try.func5, Try.ntmps5
  go_wp2_with fail
  refine (wakes_any _).mono ?_
  rintro e w1 ⟨rfl, hu⟩
  have HU := hide hu
  clear hu
  go_wp2_with fail
  go_ret
  exact ⟨rfl, HU.out⟩
set_option maxRecDepth 100000 in
set_option maxHeartbeats 40000000 in
theorem order_any {ao bo : Option Addr} {len cap n c : Nat} {f : Nat → Sp} {g : Nat → Nat} (w : World) (hb : ArgSpans w ao len f) (hw : ArgWords w bo n g) (hlc : len ≤ cap) (_ : cap ≤ maxLen) (hnc : n ≤ c) (hc : c ≤ maxLen) (hlen : len ≤ 60) :
    Calls Try.prog 5 #[.slice ao len cap, .slice bo n c] w fun e w' => e = .returned (.bool true) ∧ Upd [] w w' := by
  have q : decide ((60 : Int) < len) = false := by simp; omega
  have HB := hide hb; have HW := hide hw
  simp only [maxLen] at hc
  clear hb hw
  go_enter Try.func5, Try.ntmps5
  go_wp2_with fail
  refine (Tal.new (w := w) 3 w (Upd.refl _ _) (by omega) (by omega)).mono ?_
  rintro e w1 ⟨T1, C1, rfl, h1, -, -, -⟩
  have H1 := hide h1
  have hC1 : C1 < w1.heap.size := by obtain ⟨_, g, -⟩ := h1.at_.hC; exact blk_lt g
  clear h1
  go_wp2_with fail
  refine (Tal.new (w := w) 3 w1 H1.out.upd (by omega) (by omega)).mono ?_
  rintro e w2 ⟨T2, C2, rfl, h2, hCC, -, hu2⟩
  have H2 := hide h2; have H1' := hide (H1.out.quiet hu2)
  have hne : C1 ≠ C2 := by omega
  clear h2 hu2 H1
  go_upto_block 0 with fail
  go_cut [9] (fun _ wx => ∃ la, Tal w T1 C1 3 0 60 la wx ∧ Upper f la 0 len ∧ Tal w T2 C2 3 0 0 (fun _ => []) wx)
  case first =>
    as_aux_lemma =>
    go_wp2_with fail
    go_loopw [9] (fun si wr => ∃ (k : Nat) (la : Nat → List Sp), k ≤ len ∧ si = .int .i64 k ∧ Tal w T1 C1 3 0 k la wr ∧ Upper f la 0 k ∧ Tal w T2 C2 3 0 0 (fun _ => []) wr) (fun si _ => len - (intOf si).toNat)
    case atStart => exact ⟨0, fun _ => [], by omega, rfl, H1'.out, Upper.nil f 0 0 (Nat.le_refl _), H2.out⟩
    case round =>
      obtain ⟨k, la, hk, rfl, ha, hup, hb⟩ := hrel
      have HA := hide ha; have HBB := hide hb; have UP := hide hup
      clear ha hb hup
      by_cases hlt : k < len
      · have d5 : decide ((k : Int) < (len : Int)) = true := by simp; omega
        have d5' : decide (k < len) = true := by simpa using hlt
        obtain ⟨b, off, rfl, hc0, hc1, hf1, hf2⟩ := HB.out k hlt
        have hc0' := cell_keep' HA.out.upd hc0
        have hc1' := cell_keep' HA.out.upd hc1
        obtain ⟨e3, he3⟩ : ∃ e3, e3 = k % 3 := ⟨_, rfl⟩
        have r3 : (k : Int) % 3 = (e3 : Int) := by omega
        have he3l : e3 < 3 := by omega
        have E3 := hide he3
        clear hc0 hc1 he3
        by_cases h1 : (f k).2 < (f k).1
        · have d6 : decide (((f k).2 : Int) < ((f k).1 : Int)) = true := by simp; omega
          go_wp2_with fail
          go_roundw
          case rel => exact ⟨k + 1, la, by omega, by go_num, (HA.out.quiet ((Upd.refl [] wr).alloc _)).more, UP.out.skip (by omega), HBB.out.quiet ((Upd.refl [] wr).alloc _)⟩
          case measure => simp [intOf]; omega
        have d6 : decide (((f k).2 : Int) < ((f k).1 : Int)) = false := by simp; omega
        by_cases h2 : 1099511627776 ≤ (f k).2
        · have d7 : decide ((1099511627776 : Int) ≤ ((f k).2 : Int)) = true := by simp; omega
          go_wp2_with fail
          go_roundw
          case rel => exact ⟨k + 1, la, by omega, by go_num, (HA.out.quiet ((Upd.refl [] wr).alloc _)).more, UP.out.skip (by omega), HBB.out.quiet ((Upd.refl [] wr).alloc _)⟩
          case measure => simp [intOf]; omega
        have d7 : decide ((1099511627776 : Int) ≤ ((f k).2 : Int)) = false := by simp; omega
        go_wp2_with fail
        refine ((HA.out.quiet ((Upd.refl [] wr).alloc _)).add (r := e3) (f k) he3l (by omega) hf2 (by omega)).mono ?_
        rintro e w3 ⟨rfl, hu3, d, hd, hm, ht⟩
        have A3 := hide ht
        have B3 := hide ((HBB.out.quiet ((Upd.refl [] wr).alloc _)).other (HA.out.quiet ((Upd.refl [] wr).alloc _)) hu3 hne.symm)
        have U3 := hide (UP.out.step (d := d) ⟨by omega, by omega⟩ (by rw [← E3.out]; exact hm))
        clear hu3 hd hm ht
        go_wp2_with fail
        go_roundw
        case rel => exact ⟨k + 1, _, by omega, by go_num, A3.out, by rw [E3.out]; exact U3.out, B3.out⟩
        case measure => simp [intOf]; omega
      · have d5 : decide ((k : Int) < (len : Int)) = false := by simp; omega
        have d5' : decide (k < len) = false := by simpa using hlt
        have e1 : k = len := by omega
        subst e1
        go_wp2_with fail
        go_meet
        exact ⟨la, HA.out.upto hlen, UP.out, HBB.out⟩
  case rest =>
  obtain ⟨la, ha, hupa, hb⟩ := hcut
  have HA := hide ha; have HBB := hide hb; have UPA := hide hupa
  have w9 : IntKind.i64.wrap ((len : Int) - 1) = (len : Int) - 1 := IntWalk.i64_in _ (by omega)
  clear ha hb hupa H1' H2
  go_upto_block 2 with fail
  go_cut [11] (fun _ wx => ∃ lb, Tal w T2 C2 3 0 120 lb wx ∧ Upper f lb 0 len ∧ Tal w T1 C1 3 0 60 la wx)
  case first =>
    as_aux_lemma =>
    go_wp2_with fail
    go_loopw [11] (fun si wr => ∃ (j : Nat) (zz : Int) (lb : Nat → List Sp), j ≤ len ∧ si = .int .i64 zz ∧ zz = (j : Int) - 1 ∧ Tal w T2 C2 3 0 (2 * (len - j)) lb wr ∧ Upper f lb j len ∧ Tal w T1 C1 3 0 60 la wr) (fun si _ => (intOf si + 1).toNat)
    case atStart => exact ⟨len, (len : Int) - 1, fun _ => [], Nat.le_refl _, by go_num, rfl, HBB.out.upto (by omega), Upper.nil f _ _ (Nat.le_refl _), HA.out⟩
    case round =>
      obtain ⟨j, zz, lb, hj, rfl, hz, hb, hup, ha⟩ := hrel
      have HA2 := hide ha; have HB2 := hide hb; have UP := hide hup
      clear ha hb hup HA HBB
      cases j with
      | zero =>
        obtain rfl : zz = -1 := by omega
        have d5 : decide ((0 : Int) ≤ -1) = false := by decide
        clear hz
        go_wp2_with fail
        go_meet
        exact ⟨lb, HB2.out.upto (by omega), UP.out, HA2.out⟩
      | succ i =>
        obtain rfl : zz = (i : Int) := by omega
        have hlt : i < len := by omega
        have d5 : decide ((0 : Int) ≤ (i : Int)) = true := by simp
        have d5' : decide (i < len) = true := by simpa using hlt
        obtain ⟨b, off, rfl, hc0, hc1, hf1, hf2⟩ := HB.out i hlt
        have hc0' := cell_keep' HA2.out.upd hc0
        have hc1' := cell_keep' HA2.out.upd hc1
        obtain ⟨e3, he3⟩ : ∃ e3, e3 = i % 3 := ⟨_, rfl⟩
        have r3 : (i : Int) % 3 = (e3 : Int) := by omega
        have he3l : e3 < 3 := by omega
        have wi : IntKind.i64.wrap ((i : Int) - 1) = (i : Int) - 1 := IntWalk.i64_in _ (by omega)
        have E3 := hide he3
        clear hc0 hc1 he3 hz
        by_cases h1 : (f i).2 < (f i).1
        · have d6 : decide (((f i).2 : Int) < ((f i).1 : Int)) = true := by simp; omega
          go_wp2_with fail
          go_roundw
          case rel => exact ⟨i, (i : Int) - 1, lb, by omega, by go_num, rfl, (HB2.out.quiet ((Upd.refl [] wr).alloc _)).upto (by omega), UP.out.skipDown (by omega), HA2.out.quiet ((Upd.refl [] wr).alloc _)⟩
          case measure => simp [intOf] <;> omega
        have d6 : decide (((f i).2 : Int) < ((f i).1 : Int)) = false := by simp; omega
        by_cases h2 : 1099511627776 ≤ (f i).2
        · have d7 : decide ((1099511627776 : Int) ≤ ((f i).2 : Int)) = true := by simp; omega
          go_wp2_with fail
          go_roundw
          case rel => exact ⟨i, (i : Int) - 1, lb, by omega, by go_num, rfl, (HB2.out.quiet ((Upd.refl [] wr).alloc _)).upto (by omega), UP.out.skipDown (by omega), HA2.out.quiet ((Upd.refl [] wr).alloc _)⟩
          case measure => simp [intOf] <;> omega
        have d7 : decide ((1099511627776 : Int) ≤ ((f i).2 : Int)) = false := by simp; omega
        have hC2 : C2 < wr.heap.size := by obtain ⟨_, g, -⟩ := HB2.out.at_.hC; exact blk_lt g
        by_cases hin : i < n
        · have d8 : decide ((i : Int) < (n : Int)) = true := by simp; omega
          have d8' : decide (i < n) = true := by simpa using hin
          obtain ⟨b2, off2, rfl, hg0, hg1⟩ := HW.out i hin
          have hg0' : ∀ o, (wr.alloc o).cell? ⟨b2, off2 + i, none⟩ = some (.int .u64 (g i : Int)) := fun o => cell_keep' ((HA2.out.upd).alloc o) hg0
          obtain ⟨dd, hdd⟩ : ∃ dd, dd = (f i).2 - (f i).1 := ⟨_, rfl⟩
          obtain ⟨d1, hd1⟩ : ∃ d1, d1 = dd + 1 := ⟨_, rfl⟩
          obtain ⟨cc, hcc⟩ : ∃ cc, cc = g i % d1 := ⟨_, rfl⟩
          have hccl : cc < d1 := by rw [hcc]; exact Nat.mod_lt _ (by omega)
          obtain ⟨at1, hat⟩ : ∃ at1, at1 = (f i).1 + cc := ⟨_, rfl⟩
          have v1 : IntKind.u64.wrap (((f i).2 : Int) - ((f i).1 : Int)) = (dd : Int) := by rw [IntWalk.u64_in _ (by omega)]; omega
          have v2 : IntKind.u64.wrap ((dd : Int) + 1) = (d1 : Int) := by rw [IntWalk.u64_in _ (by omega)]; omega
          have v3 : (g i : Int) % (d1 : Int) = (cc : Int) := by rw [hcc]; rfl
          have v4 : IntKind.u64.wrap (((f i).1 : Int) + (cc : Int)) = (at1 : Int) := by rw [IntWalk.u64_in _ (by omega)]; omega
          have v5 : (d1 : Int) ≠ 0 := by omega
          have hat1 : (f i).1 ≤ at1 := by omega
          have hat2 : at1 ≤ (f i).2 := by omega
          clear hg0 hdd hd1 hcc hccl hat
          by_cases hlast : at1 < (f i).2
          · have d9 : decide ((at1 : Int) < ((f i).2 : Int)) = true := by simp; omega
            have v6 : IntKind.u64.wrap ((at1 : Int) + 1) = ((at1 + 1 : Nat) : Int) := by rw [IntWalk.u64_in _ (by omega)]; omega
            go_wp2_with fail
            go_quiet (fail)
            have BX := hide (HB2.out.quiet (((Upd.refl [] wr).alloc (.cells #[.int .u64 ((f i).1 : Int), .int .u64 ((f i).2 : Int)] TSpan)).drewN nq))
            have AX := hide (HA2.out.quiet (((Upd.refl [] wr).alloc (.cells #[.int .u64 ((f i).1 : Int), .int .u64 ((f i).2 : Int)] TSpan)).drewN nq))
            have hX : ((wr.alloc (.cells #[.int .u64 ((f i).1 : Int), .int .u64 ((f i).2 : Int)] TSpan)).drewN nq).heap[wr.heap.size]? = some (.cells #[.int .u64 ((f i).1 : Int), .int .u64 ((f i).2 : Int)] TSpan (0, 0)) := blk_new wr _
            go_wp2_with fail
            refine (span_any (at1 + 1) (f i).2 _).mono ?_
            rintro e w3 ⟨rfl, hu3⟩
            have hX3 := hu3.get hX (by simp)
            have B3 := hide (BX.out.quiet hu3); have A3 := hide (AX.out.quiet hu3)
            clear hu3
            go_wp2_with fail
            refine (B3.out.add (r := e3) (at1 + 1, (f i).2) he3l (by simp only; omega) hf2 (by omega)).mono ?_
            rintro e w4 ⟨rfl, hu4, d1, hd1, hm1, ht1⟩
            have hX4 := hu4.get hX3 (by simp; omega)
            have x0 : w4.cell? ⟨wr.heap.size, 0, none⟩ = some (.int .u64 ((f i).1 : Int)) := blk_cell hX4 rfl
            have x1 : w4.cell? ⟨wr.heap.size, 1, none⟩ = some (.int .u64 ((f i).2 : Int)) := blk_cell hX4 rfl
            have A4 := hide (A3.out.other B3.out hu4 hne)
            have B4 := hide ht1; have M1 := hide hm1
            clear hu4 hd1 hm1 ht1 hX hX3 hX4
            go_wp2_with fail
            refine (span_any (f i).1 at1 _).mono ?_
            rintro e w5 ⟨rfl, hu5⟩
            have B5 := hide (B4.out.quiet hu5); have A5 := hide (A4.out.quiet hu5)
            clear hu5
            go_wp2_with fail
            refine (B5.out.add (r := e3) ((f i).1, at1) he3l (by simp only; omega) (by simp only; omega) (by omega)).mono ?_
            rintro e w6 ⟨rfl, hu6, d2, hd2, hm2, ht2⟩
            have A6 := hide (A5.out.other B5.out hu6 hne)
            have B6 := hide (ht2.upto (K' := 2 * (len - i)) (by omega))
            have U6 := hide (UP.out.stepDown (l' := fun k => if k = e3 then d2 else if k = e3 then d1 else lb k) hlt ⟨by omega, by omega⟩ (fun r hr => by rw [← E3.out] at hr; simp only [if_neg hr]) (fun m => by
              have h1 := hm2 m
              have h2 := M1.out m
              simp only [if_true] at h1
              rw [← E3.out]
              simp only [if_true]
              rw [h1, h2]
              exact join_iff hat1 hat2))
            clear hu6 hd2 hm2 ht2
            go_wp2_with fail
            go_roundw
            case rel => exact ⟨i, (i : Int) - 1, _, by omega, by go_num, rfl, B6.out, U6.out, A6.out⟩
            case measure => simp [intOf] <;> omega
          · obtain rfl : at1 = (f i).2 := by omega
            have d9 : decide (((f i).2 : Int) < ((f i).2 : Int)) = false := by simp
            go_wp2_with fail
            go_quiet (fail)
            have BX := hide (HB2.out.quiet (((Upd.refl [] wr).alloc (.cells #[.int .u64 ((f i).1 : Int), .int .u64 ((f i).2 : Int)] TSpan)).drewN nq))
            have AX := hide (HA2.out.quiet (((Upd.refl [] wr).alloc (.cells #[.int .u64 ((f i).1 : Int), .int .u64 ((f i).2 : Int)] TSpan)).drewN nq))
            go_wp2_with fail
            refine (span_any (f i).1 (f i).2 _).mono ?_
            rintro e w3 ⟨rfl, hu3⟩
            have B3 := hide (BX.out.quiet hu3); have A3 := hide (AX.out.quiet hu3)
            clear hu3
            go_wp2_with fail
            refine (B3.out.add (r := e3) (f i) he3l (by omega) hf2 (by omega)).mono ?_
            rintro e w4 ⟨rfl, hu4, d, hd, hm, ht⟩
            have A4 := hide (A3.out.other B3.out hu4 hne)
            have B4 := hide (ht.upto (K' := 2 * (len - i)) (by omega))
            have U4 := hide (UP.out.stepDown (l' := fun k => if k = e3 then d else lb k) hlt ⟨by omega, by omega⟩ (fun r hr => if_neg (by rw [E3.out]; exact hr)) (fun m => by rw [← E3.out, if_pos rfl, hm m]))
            clear hu4 hd hm ht
            go_wp2_with fail
            go_roundw
            case rel => exact ⟨i, (i : Int) - 1, _, by omega, by go_num, rfl, B4.out, U4.out, A4.out⟩
            case measure => simp [intOf] <;> omega
        · have d8 : decide ((i : Int) < (n : Int)) = false := by simp; omega
          have d8' : decide (i < n) = false := by simpa using hin
          have d9 : decide (((f i).2 : Int) < ((f i).2 : Int)) = false := by simp
          have BX := hide (HB2.out.quiet ((Upd.refl [] wr).alloc (.cells #[.int .u64 ((f i).1 : Int), .int .u64 ((f i).2 : Int)] TSpan)))
          have AX := hide (HA2.out.quiet ((Upd.refl [] wr).alloc (.cells #[.int .u64 ((f i).1 : Int), .int .u64 ((f i).2 : Int)] TSpan)))
          go_wp2_with fail
          refine (span_any (f i).1 (f i).2 _).mono ?_
          rintro e w3 ⟨rfl, hu3⟩
          have B3 := hide (BX.out.quiet hu3); have A3 := hide (AX.out.quiet hu3)
          clear hu3
          go_wp2_with fail
          refine (B3.out.add (r := e3) (f i) he3l (by omega) hf2 (by omega)).mono ?_
          rintro e w4 ⟨rfl, hu4, d, hd, hm, ht⟩
          have A4 := hide (A3.out.other B3.out hu4 hne)
          have B4 := hide (ht.upto (K' := 2 * (len - i)) (by omega))
          have U4 := hide (UP.out.stepDown (l' := fun k => if k = e3 then d else lb k) hlt ⟨by omega, by omega⟩ (fun r hr => if_neg (by rw [E3.out]; exact hr)) (fun m => by rw [← E3.out, if_pos rfl, hm m]))
          clear hu4 hd hm ht
          go_wp2_with fail
          go_roundw
          case rel => exact ⟨i, (i : Int) - 1, _, by omega, by go_num, rfl, B4.out, U4.out, A4.out⟩
          case measure => simp [intOf] <;> omega
  case rest =>
  obtain ⟨lb, hb, hupb, ha⟩ := hcut
  have heq : ∀ r, r < 3 → la r = lb r := fun r hr => norm_ext (ha.at_.norm r hr) (hb.at_.norm r hr) fun m => (UPA.out r hr m).trans (hupb r hr m).symm
  have A3 := hide ha; have B3 := hide hb; have EQ := hide heq
  clear ha hb hupb heq HA HBB UPA w9
  go_upto_block 4 with fail
  go_cut [14] (fun _ wx => Tal w T1 C1 3 0 60 la wx ∧ Tal w T2 C2 3 0 120 lb wx)
  case first =>
    as_aux_lemma =>
    go_wp2_with fail
    go_loopw [14] (fun si wr => ∃ r : Nat, r ≤ 3 ∧ si = .int .i64 r ∧ Tal w T1 C1 3 0 60 la wr ∧ Tal w T2 C2 3 0 120 lb wr) (fun si _ => 3 - (intOf si).toNat)
    case atStart => exact ⟨0, by omega, rfl, A3.out, B3.out⟩
    case round =>
      obtain ⟨r, hr, rfl, ha, hb⟩ := hrel
      have HA2 := hide ha; have HB2 := hide hb
      clear ha hb A3 B3
      by_cases hlt : r < 3
      · have d5 : decide ((r : Int) < 3) = true := by simp; omega
        have d5' : decide (r < 3) = true := by simpa using hlt
        go_wp2_with fail
        refine (spans_any (r := r) _ HA2.out.at_ hlt (by omega)).mono ?_
        rintro e w4 ⟨ao1, cap1, rfl, hr1, hu4⟩
        have A4 := hide (HA2.out.quiet hu4); have B4 := hide (HB2.out.quiet hu4); have R1 := hide hr1
        clear hu4 hr1
        go_wp2_with fail
        refine (spans_any (r := r) _ B4.out.at_ hlt (by omega)).mono ?_
        rintro e w5 ⟨ao2, cap2, rfl, hr2, hu5⟩
        have A5 := hide (A4.out.quiet hu5); have B5 := hide (B4.out.quiet hu5)
        have R1' := hide (owns_upd R1.out hu5 (by simp))
        rw [← EQ.out r hlt] at hr2 ⊢
        have hnorm := A5.out.at_.norm r hlt
        have hbnd := A5.out.at_.bnd r hlt
        obtain ⟨L, hL⟩ : ∃ L, L = la r := ⟨_, rfl⟩
        rw [← hL] at hr2 hnorm hbnd ⊢
        have R1'' := R1'
        rw [← hL] at R1''
        obtain ⟨a1, c1, e1, c11, c12, c13⟩ := row_get R1''.out
        cases e1
        obtain ⟨a2, c2, e2, c21, c22, c23⟩ := row_get hr2
        cases e2
        have G1 := hide c13; have G2 := hide c23; have NO := hide hnorm; have BD := hide hbnd
        simp only [maxLen] at c12 c22
        clear hu5 hr2 hnorm hbnd hL R1 R1' R1'' c13 c23 A4 B4
        go_wp2_with fail
        go_loopw [17] (fun si wr2 => ∃ i : Nat, i ≤ L.length ∧ si = .int .i64 i ∧ Upd [] w5 wr2) (fun si _ => L.length - (intOf si).toNat)
        case atStart => exact ⟨0, by omega, rfl, Upd.refl _ _⟩
        case round =>
          obtain ⟨i, hi, rfl, hu⟩ := hrel
          have HU := hide hu
          clear hu
          by_cases hil : i < L.length
          · have d6 : decide ((i : Int) < (L.length : Int)) = true := by simp; omega
            have d6' : decide (i < L.length) = true := by simpa using hil
            obtain ⟨p, hp⟩ : ∃ p, L[i]? = some p := ⟨_, List.getElem?_eq_getElem hil⟩
            obtain ⟨g1, rfl, -, -, x0, x1⟩ := G1.out i p hp
            obtain ⟨g2, rfl, -, -, y0, y1⟩ := G2.out i p hp
            have x0' := cell_keep' HU.out x0
            have x1' := cell_keep' HU.out x1
            have y0' := cell_keep' HU.out y0
            have y1' := cell_keep' HU.out y1
            have hple := NO.out.2 p (List.mem_of_getElem? hp)
            have d7 : decide ((p.2 : Int) < (p.1 : Int)) = false := by simp; omega
            have d7' : decide (p.2 < p.1) = false := by simp; omega
            have S4 : Hid (Four g1 g2 i p wr) := ⟨x0', x1', y0', y1'⟩
            have HP := hide hp
            have hcx0 := hple
            clear x0 x1 y0 y1 x0' x1' y0' y1' hp hple
            obtain ⟨x0', x1', y0', y1'⟩ := S4.out
            by_cases hi0 : i = 0
            · subst hi0
              have d8 : decide ((0 : Int) < ((0 : Nat) : Int)) = false := by simp
              have d8' : decide (0 < 0) = false := by simp
              simp only [Nat.zero_mul, Nat.zero_add] at x0' x1' y0' y1'
              clear HP S4 hcx0
              go_wp2_with fail
              go_quiet (fail)
              go_wp2_with fail
              go_roundw
              case rel => exact ⟨1, by omega, by go_num, HU.out.drewN _⟩
              case measure => simp [intOf] <;> omega
            · have d8 : decide ((0 : Int) < (i : Int)) = true := by simp; omega
              have d8' : decide (0 < i) = true := by simp; omega
              obtain ⟨i', hi'⟩ : ∃ i', i = i' + 1 := ⟨i - 1, by omega⟩
              obtain ⟨q, hq⟩ : ∃ q, L[i']? = some q := ⟨_, List.getElem?_eq_getElem (by omega)⟩
              obtain ⟨g3, e3, -, -, z0, z1⟩ := G1.out i' q hq
              cases e3
              have z1' := cell_keep' HU.out z1
              have hqp : q.2 + 1 < p.1 := by
                have h5 := List.pairwise_iff_getElem.1 NO.out.1 i' i (by omega) hil (by omega)
                have h6 := HP.out
                rw [List.getElem?_eq_getElem (by omega)] at hq
                rw [List.getElem?_eq_getElem hil] at h6
                cases hq; cases h6
                exact h5
              have hp1 := BD.out p (List.mem_of_getElem? HP.out)
              have v1 : IntKind.i64.wrap ((i : Int) - 1) = (i' : Int) := by rw [IntWalk.i64_in _ (by omega)]; omega
              have v2 : IntKind.u64.wrap ((q.2 : Int) + 1) = (q.2 : Int) + 1 := IntWalk.u64_in _ (by omega)
              have d9 : decide ((p.1 : Int) ≤ (q.2 : Int) + 1) = false := by simp; omega
              have d9' : decide (p.1 ≤ q.2 + 1) = false := by simp; omega
              have hi2 : i' < L.length := by omega
              clear hq z0 z1 hi' HP S4 hcx0
              go_wp2_with fail
              go_quiet (fail)
              go_wp2_with fail
              go_roundw
              case rel => exact ⟨i + 1, by omega, by go_num, HU.out.drewN _⟩
              case measure => simp [intOf] <;> omega
          · have d6 : decide ((i : Int) < (L.length : Int)) = false := by simp; omega
            have d6' : decide (i < L.length) = false := by simpa using hil
            go_wp2_with fail
            go_roundw
            case rel => exact ⟨r + 1, by omega, by go_num, A5.out.quiet HU.out, B5.out.quiet HU.out⟩
            case measure => simp [intOf] <;> omega
      · have d5 : decide ((r : Int) < 3) = false := by simp; omega
        have d5' : decide (r < 3) = false := by simpa using hlt
        go_wp2_with fail
        go_meet
        exact ⟨HA2.out, HB2.out⟩
  case rest =>
  obtain ⟨ha, hb⟩ := hcut
  have A5 := hide ha; have B5 := hide hb
  clear ha hb A3 B3
  go_wp2_with fail
  refine (upto_any (s := 0) _ A5.out.at_ (by omega)).mono ?_
  rintro e w6 ⟨u, rfl, hup1, hu6⟩
  have A6 := hide (A5.out.quiet hu6); have B6 := hide (B5.out.quiet hu6)
  clear hu6
  go_wp2_with fail
  refine (upto_any (s := 0) _ B6.out.at_ (by omega)).mono ?_
  rintro e w7 ⟨v, rfl, hup2, hu7⟩
  obtain rfl := (hup1.congr EQ.out).eq hup2
  have A7 := hide (A6.out.quiet hu7)
  have q1 : ((u : Int) == (u : Int)) = true := by simp
  clear hu7 hup1 hup2
  go_wp2_with fail
  refine (wakes_any _).mono ?_
  rintro e w8 ⟨rfl, hu8⟩
  have U8 := hide (A7.out.upd.trans hu8)
  clear hu8
  go_wp2_with fail
  go_ret
  exact ⟨rfl, U8.out⟩
end Go.Proofs.Ytmedpbpjjjhhiaa.Vot
