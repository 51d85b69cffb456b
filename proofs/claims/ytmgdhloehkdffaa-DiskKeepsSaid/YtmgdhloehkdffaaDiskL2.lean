/- The law DiskKeeps: its loop. -/
import Derived.Test.YtmgdhloehkdffaaDiskL1
import Derived.Test.YtmgdhloehkdffaaMapM
namespace Go.Proofs.Ytmgdhloehkdffaa.DiskW
open Go.RowKit

theorem strOf_size (bs : List UInt8) : (strOf bs).size = bs.length := by simp [strOf, ByteArray.size]

theorem strOf_cut (bs : List UInt8) (i j : Nat) : (strOf bs).extract i j = strOf ((bs.drop i).take (j - i)) := by
  refine ByteArray.ext (Array.toList_inj.1 ?_)
  simp [strOf, ByteArray.data_extract]
theorem strOf_same (bs : List UInt8) : (strOf bs == strOf bs) = true := by rw [ba_beq]; simp
theorem src_below {w w' : World} {bo : Option Addr} {bl bc : Nat} {xs : List Value} (h : SrcAt w bo bl bc xs 1) (hb : Below w.heap.size w w') : SrcAt w' bo bl bc xs 1 :=
  ⟨h.len, h.one, h.nil, fun a e j u hj => by
    have h1 := h.cells a e j u hj
    have h2 := World.block_lt_of_cell? w _ h1
    rw [← h1]
    cases ha : a.add j with
    | mk b o s =>
      rw [ha] at h2
      exact hb.cell h2⟩
/-- What holds ahead of act k. -/
structure Inv (d : DS) (sure : List UInt8) (k : Nat) : Prop where
  pre : sure <+: d.byt
  le : sure.length ≤ d.syn
  syn : d.syn ≤ d.byt.length
  len : d.byt.length ≤ k * 10000
  lo : -1 ≤ d.fuse
  hi : d.fuse ≤ 9223372036854775807
theorem app_cases (d : DS) (bs : List UInt8) : (d.append bs = (d, 20) ∧ d.dead = true) ∨ (∃ f, f < bs.length ∧ d.append bs = ({ byt := d.byt ++ bs.take f, syn := d.syn, dead := true, fuse := -1 }, 21) ∧ d.dead = false) ∨
    (∃ fu, d.append bs = ({ d with byt := d.byt ++ bs, fuse := fu }, 0) ∧ d.dead = false ∧ (-1 ≤ d.fuse → -1 ≤ fu) ∧ fu ≤ d.fuse) := by
  unfold DS.append
  cases hd : d.dead with
  | true => exact .inl ⟨by simp, rfl⟩
  | false =>
    by_cases h : 0 ≤ d.fuse ∧ d.fuse < bs.length
    · refine .inr (.inl ⟨d.fuse.toNat, by omega, by simp [h], rfl⟩)
    · refine .inr (.inr ⟨if 0 ≤ d.fuse then d.fuse - bs.length else d.fuse, by simp [h], rfl, ?_, ?_⟩)
      · intro h1; split <;> omega
      · split <;> omega
theorem inv_of {d d' : DS} {sure : List UInt8} {k : Nat} (h : Inv d sure k) (h1 : sure <+: d'.byt) (h2 : sure.length ≤ d'.syn) (h3 : d'.syn ≤ d'.byt.length) (h4 : d'.byt.length ≤ d.byt.length + 10000) (h5 : -1 ≤ d'.fuse) (h6 : d'.fuse ≤ 9223372036854775807) : Inv d' sure (k + 1) :=
  ⟨h1, h2, h3, by have := h.len; omega, h5, h6⟩
theorem inv_act {d : DS} {sure bs : List UInt8} {k q : Nat} {n : Int} (h : Inv d sure k) (hb : bs.length ≤ 10000) (hn : n ≤ 9223372036854775807) : Inv (d.act q n bs).1 sure (k + 1) := by
  have h1 := h.pre
  have h2 := h.le
  have h3 := h.syn
  have h4 := h.lo
  have h5 := h.hi
  have hs : ∀ m : Nat, d.syn ≤ m → sure <+: d.byt.take m := fun m hm => List.prefix_take_iff.2 ⟨h1, by omega⟩
  have same : Inv d sure (k + 1) := inv_of h h1 h2 h3 (by omega) h4 h5
  unfold DS.act
  split
  · rcases app_cases d bs with ⟨e, -⟩ | ⟨f, hf, e, -⟩ | ⟨fu, e, -, h6, h7⟩
    · rw [e]; exact same
    · rw [e]; exact inv_of h (h1.trans (List.prefix_append _ _)) h2 (by simp; omega) (by simp; omega) (by simp) (by simp)
    · rw [e]; exact inv_of h (h1.trans (List.prefix_append _ _)) h2 (by simp; omega) (by simp; omega) (h6 h4) (by simp; omega)
  · unfold DS.sync
    split
    · exact same
    · exact inv_of h h1 (by simp; omega) (by simp) (by simp) h4 h5
  · unfold DS.cut
    split
    · exact same
    · split
      · exact same
      · rename_i h6
        exact inv_of h (hs _ (by omega)) h2 (by simp; omega) (by simp; omega) h4 h5
  · unfold DS.setFuse
    split
    · exact same
    · exact inv_of h h1 h2 h3 (by simp) (by simp; omega) (by simp; omega)
  · unfold DS.crash
    split
    · exact same
    · refine inv_of h ?_ h2 ?_ ?_ (by simp) (by simp)
      · simp only []
        split
        · exact hs _ (by omega)
        · exact h1
      · simp only []
        split
        · simp; omega
        · exact h3
      · simp only []
        split
        · simp; omega
        · omega
  · exact inv_of h h1 h2 h3 (by simp [DS.restart]) h4 h5
theorem act_dead {d : DS} {bs : List UInt8} {q : Nat} {n : Int} (h : d.dead = true) : (d.act q n bs).1.byt = d.byt := by
  unfold DS.act
  split <;> simp [DS.append, DS.sync, DS.cut, DS.setFuse, DS.crash, DS.restart, h]
theorem act_sync {d : DS} {sure bs : List UInt8} {k q : Nat} {n : Int} (h : Inv d sure k) (hq : q % 7 = 1) (h0 : (d.act q n bs).2 = 0) : Inv (d.act q n bs).1 (d.act q n bs).1.byt (k + 1) := by
  have h3 := h.syn
  have h6 := h.len
  simp only [DS.act, hq, DS.sync] at h0 ⊢
  split at h0
  · cases h0
  · rename_i hd
    simp only [hd, if_false, Bool.false_eq_true]
    exact ⟨List.prefix_refl _, Nat.le_refl _, Nat.le_refl _, Nat.le_trans h6 (Nat.mul_le_mul_right _ (Nat.le_succ k)), h.lo, h.hi⟩

set_option maxRecDepth 100000 in
set_option maxHeartbeats 4000000 in
theorem keeps_any {ao : Option Addr} {len cap : Nat} {dos : Nat → Nat} {ns : Nat → Int} {bos : Nat → Option Addr} {bls bcs : Nat → Nat} {bss : Nat → List UInt8} (w : World) (hlen : len ≤ maxLen) (h : Acts w ao len dos ns bos bls bcs bss) :
    Calls Try.prog 5 #[.slice ao len cap] w fun e w' => e = .returned (.bool true) ∧ Upd [] w w' := by
  have H := hide h
  clear h
  go_enter Try.func5, Try.ntmps5
  go_wp2_with fail
  refine (great_any _ hlen H.out).mono ?_
  rintro e w0 ⟨rfl, r, rfl, hg⟩
  cases r with
  | true =>
    clear hg
    go_wp2_with fail
    refine (wakes_any _).mono ?_
    rintro e w3 ⟨rfl, hu3⟩
    have U3 := hide hu3
    clear hu3
    go_wp2_with fail
    go_ret
    exact ⟨rfl, U3.out⟩
  | false =>
    obtain ⟨hl2, hbl⟩ := hg rfl
    have HB := hide hbl
    clear hg hbl
    simp only [maxLen] at hlen
    go_wp2_with fail
    refine (new_any _).mono ?_
    rintro e w1 ⟨v, rfl, rfl, h1, hu1⟩
    have H1 := hide h1; have U1 := hide hu1.below_nil
    clear h1 hu1
    go_wp2_with fail
    go_loopw [4, 5] (fun ss si wr => ∃ (k : Nat) (sure : List UInt8) (d : DS) (bv : Value), k ≤ len ∧ si = .int .i64 k ∧ ss = .string (strOf sure) ∧ DiskAt wr w.heap.size w.heap.size bv d ∧ Below w.heap.size w wr ∧ Inv d sure k) (fun _ si _ => len - (intOf si).toNat)
    case atStart => exact ⟨0, [], _, _, by omega, rfl, rfl, H1.out, U1.out, ⟨List.prefix_refl _, by simp, by simp, by simp, by simp, by simp⟩⟩
    case round =>
      obtain ⟨k, sure, d, bv, hk, rfl, rfl, hd, hbw, hinv⟩ := hrel
      have D := hide hd; have U := hide hbw; have I := hide hinv
      have hsz : w.heap.size ≤ wr.heap.size := hbw.size
      clear hd hbw hinv H1 U1
      by_cases hlt : k < len
      · obtain ⟨b, off, rfl, hact⟩ := H.out k hlt
        have hbl := HB.out k hlt
        have A := hide hact
        clear hact
        have hbs : b < w.heap.size := by
          have := A.out.c0
          rcases Nat.lt_or_ge b w.heap.size with h1 | h1
          · exact h1
          · simp [World.cell?, Array.getElem?_eq_none h1] at this
        have hc0 := (U.out.cell hbs).trans A.out.c0
        have hc1 := (U.out.cell hbs).trans A.out.c1
        have hc2 := (U.out.cell hbs).trans A.out.c2
        have hlo := A.out.lo
        by_cases h5 : dos k % 7 = 5
        · have q5 : ((dos k : Int) % 7 == 5) = true := by simp; omega
          go_wp2_with fail
          go_roundw
          case rel => exact ⟨k + 1, sure, d, bv, by omega, by go_num, rfl, D.out, U.out, ⟨I.out.pre, I.out.le, I.out.syn, by have := I.out.len; omega, I.out.lo, I.out.hi⟩⟩
          case measure => simp [intOf]; omega
        · have q5 : ((dos k : Int) % 7 == 5) = false := by simp; omega
          go_wp2_with fail
          refine wp_region_z (fun _ => True) 99 (by kernel_rfl) ?_
          refine wpAnyZ_takeE 0 rfl (by kernel_rfl) (by kernel_rfl) (by kernel_rfl) (by kernel_rfl) (fun _ _ _ _ h => h) rfl (by exact trivial) ?_
          apply Exists.intro
          refine ⟨fun wx hS => ?_, ?_⟩
          · go_simp; rfl
          simp only [Act.put, List.setIfInBounds_toArray, List.set_cons_succ, List.set_cons_zero, List.getElem_toArray, List.getElem_cons_zero]
          refine wpAnyZ_takeE 3 rfl (by kernel_rfl) (by kernel_rfl) (by kernel_rfl) (by kernel_rfl) (fun _ _ _ _ h => h) rfl (by exact trivial) ?_
          apply Exists.intro
          refine ⟨fun wx hS => ?_, ?_⟩
          · go_simp; rfl
          simp only [Act.put, List.setIfInBounds_toArray, List.set_cons_succ, List.set_cons_zero, List.getElem_toArray, List.getElem_cons_succ, List.getElem_cons_zero]
          refine wpAnyZ_one 1 (by kernel_rfl) rfl rfl (fun K hK => ?_)
          try simp only [List.getElem_toArray, List.getElem_cons_succ, List.getElem_cons_zero]
          go_simp
          have hlb : d.byt.length ≤ 1000000000000 := by have := I.out.len; omega
          refine (bytes_any _ (D.out.drewN 1) hsz hlb).mono ?_
          rintro e w2 ⟨v2, rfl, ho2, hu2⟩
          have D2 := hide ((D.out.drewN 1).upd hu2 (by simp) (fun _ _ => by simp)); have U2 := hide (U.out.trans ((((Upd.refl [] wr).drewN 1).trans hu2).below (by simp) hsz))
          have hsz2 : w.heap.size ≤ w2.heap.size := U2.out.size
          have hstr := run_str_own ho2
          clear ho2 hu2 D U hsz hc0 hc1 hc2
          refine hK _ _ (.inr trivial) ?_
          clear hK K
          try simp only [Act.put, List.setIfInBounds_toArray, List.set_cons_succ, List.set_cons_zero]
          refine wpAnyZ_strong (S' := fun w' => (convert 39 9 v2).run Try.prog w' = .ok (.string (strOf d.byt)) w') (fun _ _ => trivial) _ _ _ _ ?_
          refine wpAnyZ_takeE 2 rfl (by kernel_rfl) (by kernel_rfl) (by kernel_rfl) (by kernel_rfl) (fun _ _ _ _ h => h) rfl (by exact hstr) ?_
          apply Exists.intro
          refine ⟨fun wx hS => ?_, ?_⟩
          · have s0 := hS; go_simp; rfl
          simp only [Act.put, List.setIfInBounds_toArray, List.set_cons_succ, List.set_cons_zero, List.getElem_toArray, List.getElem_cons_succ, List.getElem_cons_zero]
          refine wpAnyZ_one 4 (by kernel_rfl) rfl rfl (fun K hK => ?_)
          try simp only [List.getElem_toArray, List.getElem_cons_succ, List.getElem_cons_zero]
          go_simp
          refine (dead_any _ D2.out).mono ?_
          rintro e w3 ⟨rfl, rfl⟩
          refine hK _ _ (.inr hstr) ?_
          clear hK K
          try simp only [Act.put, List.setIfInBounds_toArray, List.set_cons_succ, List.set_cons_zero]
          refine wpAnyZ_takeE 5 rfl (by kernel_rfl) (by kernel_rfl) (by kernel_rfl) (by kernel_rfl) (fun _ _ _ _ h => h) rfl (by exact hstr) ?_
          apply Exists.intro
          refine ⟨fun wx hS => ?_, ?_⟩
          · have s0 := hS; go_simp; rfl
          simp only [Act.put, List.setIfInBounds_toArray, List.set_cons_succ, List.set_cons_zero, List.getElem_toArray, List.getElem_cons_succ, List.getElem_cons_zero]
          refine wpAnyZ_takeE 6 rfl (by kernel_rfl) (by kernel_rfl) (by kernel_rfl) (by kernel_rfl) (fun _ _ _ _ h => h) rfl (by exact hstr) ?_
          apply Exists.intro
          refine ⟨fun wx hS => ?_, ?_⟩
          · have s0 := hS; go_simp; rfl
          simp only [Act.put, List.setIfInBounds_toArray, List.set_cons_succ, List.set_cons_zero, List.getElem_toArray, List.getElem_cons_succ, List.getElem_cons_zero]
          refine wpAnyZ_done (by kernel_rfl) ?_ _
          clear hstr
          have hc0 := (U2.out.cell hbs).trans A.out.c0
          have hc1 := (U2.out.cell hbs).trans A.out.c1
          have hc2 := (U2.out.cell hbs).trans A.out.c2
          go_wp2_with fail
          have hbsl : (bss k).length = bls k := by have := A.out.src.len; simpa using this
          refine (does_any (bs := bss k) _ D2.out (Nat.le_refl _) hsz2 (src_below A.out.src U2.out) A.out.cap (by omega) ⟨I.out.syn, hlb, I.out.lo, I.out.hi⟩ hlo h5).mono ?_
          rintro e w4 ⟨v4, rfl, rfl, bv4, hd4, hb4⟩
          have hI := inv_act (q := dos k) (n := ns k) I.out (by rw [hbsl]; exact hbl) A.out.hi
          obtain ⟨d', x, hr⟩ : ∃ d' x, d.act (dos k) (ns k) (bss k) = (d', x) := ⟨_, _, rfl⟩
          have hdead := fun h => act_dead (bs := bss k) (q := dos k) (n := ns k) (d := d) h
          rw [hr] at hd4 hI hdead
          simp only [] at hd4 hI hdead
          rw [hr]
          have D4 := hide hd4; have U4 := hide (U2.out.trans hb4); have I4 := hide hI; have R := hide hr; have HDD := hide hdead
          have hsz4 : w.heap.size ≤ w4.heap.size := U4.out.size
          have hc0 := (U4.out.cell hbs).trans A.out.c0
          have hc2 := (U4.out.cell hbs).trans A.out.c2
          have HBS := hide hbsl
          clear hd4 hb4 hI D2 U2 hsz2 hr hdead hbsl
          go_wp2_with fail
          have hlb4 : d'.byt.length ≤ 1000000000000 := by have := I4.out.len; omega
          refine (bytes_any _ D4.out hsz4 hlb4).mono ?_
          rintro e w5 ⟨v5, rfl, ho5, hu5⟩
          have D5 := hide (D4.out.upd hu5 (by simp) (fun _ _ => by simp)); have U5 := hide (U4.out.trans (hu5.below (by simp) hsz4))
          have hsz5 : w.heap.size ≤ w5.heap.size := U5.out.size
          have hstr := run_str_own ho5
          clear ho5 hu5 D4 U4 hsz4 hc0 hc2
          have hc0 := (U5.out.cell hbs).trans A.out.c0
          have hc2 := (U5.out.cell hbs).trans A.out.c2
          have z1 := strOf_size d'.byt
          have z2 := strOf_size sure
          have z3 := strOf_size d.byt
          have hle : sure.length ≤ d'.byt.length := I4.out.pre.length_le
          have f1 : decide (d'.byt.length < sure.length) = false := by simpa using hle
          have e1 : (strOf d'.byt).extract 0 sure.length = strOf sure := by
            rw [strOf_cut]
            simp only [List.drop_zero, Nat.sub_zero]
            rw [← List.prefix_iff_eq_take.1 I4.out.pre]
          go_wp2_with fail
          refine (synced_any _ D5.out).mono ?_
          rintro e w6 ⟨rfl, rfl⟩
          have f3 : decide (d'.syn < sure.length) = false := by simpa using I4.out.le
          have z4 : ∀ t, (strOf (d.byt ++ t)).extract 0 d.byt.length = strOf d.byt := fun t => by rw [strOf_cut]; simp
          have z5 : ∀ (t : List UInt8) (m : Nat), t.length = m → (strOf (d.byt ++ t)).extract d.byt.length (d.byt.length + m) = strOf t := fun t m h => by subst h; rw [strOf_cut]; simp
          have hsy := I4.out.syn
          by_cases h7 : dos k % 7 = 0
          · have q0 : ((dos k : Int) % 7 == 0) = true := by simp; omega
            have q1 : ((dos k : Int) % 7 == 1) = false := by simp; omega
            have R2 := R.out
            simp only [DS.act, h7] at R2
            rcases app_cases d (bss k) with ⟨e, hdd⟩ | ⟨f, hf, e, hdd⟩ | ⟨fu, e, hdd, -⟩
            · rw [e] at R2
              simp only [Prod.mk.injEq] at R2
              obtain ⟨rd, rfl⟩ := R2
              have sb : strOf d'.byt = strOf d.byt := by rw [← rd]
              have hl' : d'.byt.length = d.byt.length := by rw [← rd]
              have z4' := z4 []
              simp only [List.append_nil] at z4'
              rw [sb] at e1
              rw [hl'] at z1 hle f1 hsy
              clear z4 z5 h7 e rd hl'
              go_wp2_with fail
              go_quiet ((go_at_call 23; exact quiet_left (dead_any _ (D5.out.drewN _))))
              go_wp2_with fail
              refine (synced_any _ (D5.out.drewN _)).mono ?_
              rintro e w7 ⟨rfl, rfl⟩
              have f9 : decide (d.byt.length < d'.syn) = false := by simpa using hsy
              go_wp2_with fail
              go_roundw
              case rel => exact ⟨k + 1, sure, d', bv4, by omega, by go_num, rfl, D5.out.drewN _, U5.out.trans (((Upd.refl [] w5).drewN _).below (by simp) hsz5), I4.out⟩
              case measure => simp [intOf]; omega
            · rw [e] at R2
              simp only [Prod.mk.injEq] at R2
              obtain ⟨rd, rfl⟩ := R2
              have hb' : d'.byt = d.byt ++ (bss k).take f := by rw [← rd]
              have hd' : d'.dead = true := by rw [← rd]
              have hft : ((bss k).take f).length = f := by simp; omega
              have hfl : f ≤ bls k := by rw [← HBS.out]; omega
              have hfc : f ≤ bcs k := Nat.le_trans hfl A.out.cap
              clear z1 e1
              have z1 : (strOf d'.byt).size = d.byt.length + f := by rw [strOf_size, hb', List.length_append, hft]
              have z4' := z4 ((bss k).take f)
              have z5' := z5 ((bss k).take f) f hft
              rw [← hb'] at z4' z5'
              rw [hb', List.length_append, hft] at hsy
              have hcv : ∀ n, (convert 39 9 (.slice (bos k) f (bcs k))).run Try.prog (w5.drewN n) = .ok (.string (strOf ((bss k).take f))) (w5.drewN n) := fun n => by
                have hsr : SrcAt (w5.drewN n) (bos k) (bls k) (bcs k) ((bss k).map u8v) 1 := src_below A.out.src (U5.out.trans (((Upd.refl [] w5).drewN n).below (by simp) hsz5))
                exact run_str_src (src_take hsr f (by rw [← HBS.out]; omega)) A.out.spot
              clear z4 z5 h7 e rd hb' hf
              go_wp2_with fail
              go_quiet ((go_at_call 23; exact quiet_left (dead_any _ (D5.out.drewN _))))
              go_wp2_with fail
              refine (synced_any _ (D5.out.drewN _)).mono ?_
              rintro e w7 ⟨rfl, rfl⟩
              have f9 : decide (d.byt.length + f < d'.syn) = false := by simpa using hsy
              have f9' : decide ((d.byt.length : Int) + f < d'.syn) = false := by simp; omega
              go_wp2_with fail
              go_roundw
              case rel => exact ⟨k + 1, sure, d', bv4, by omega, by go_num, rfl, D5.out.drewN _, U5.out.trans (((Upd.refl [] w5).drewN _).below (by simp) hsz5), I4.out⟩
              case measure => simp [intOf]; omega
            · rw [e] at R2
              simp only [Prod.mk.injEq] at R2
              obtain ⟨rd, rfl⟩ := R2
              have hb' : d'.byt = d.byt ++ bss k := by rw [← rd]
              have hft : (bss k).length = bls k := HBS.out
              have hfc : bls k ≤ bcs k := A.out.cap
              clear z1 e1
              have z1 : (strOf d'.byt).size = d.byt.length + bls k := by rw [strOf_size, hb', List.length_append, hft]
              have z4' := z4 (bss k)
              have z5' := z5 (bss k) (bls k) hft
              rw [← hb'] at z4' z5'
              rw [hb', List.length_append, hft] at hsy
              have hcv : ∀ n, (convert 39 9 (.slice (bos k) (bls k) (bcs k))).run Try.prog (w5.drewN n) = .ok (.string (strOf (bss k))) (w5.drewN n) := fun n => by
                have hsr : SrcAt (w5.drewN n) (bos k) (bls k) (bcs k) ((bss k).map u8v) 1 := src_below A.out.src (U5.out.trans (((Upd.refl [] w5).drewN n).below (by simp) hsz5))
                exact run_str_src hsr A.out.spot
              clear z4 z5 h7 e rd hb'
              go_wp2_with fail
              go_quiet ((go_at_call 23; exact quiet_left (dead_any _ (D5.out.drewN _))))
              go_wp2_with fail
              refine (synced_any _ (D5.out.drewN _)).mono ?_
              rintro e w7 ⟨rfl, rfl⟩
              have f9 : decide (d.byt.length + bls k < d'.syn) = false := by simpa using hsy
              have f9' : decide ((d.byt.length : Int) + bls k < d'.syn) = false := by simp; omega
              go_wp2_with fail
              go_roundw
              case rel => exact ⟨k + 1, sure, d', bv4, by omega, by go_num, rfl, D5.out.drewN _, U5.out.trans (((Upd.refl [] w5).drewN _).below (by simp) hsz5), I4.out⟩
              case measure => simp [intOf]; omega
          · have q0 : ((dos k : Int) % 7 == 0) = false := by simp; omega
            by_cases h8 : dos k % 7 = 1
            · have q1 : ((dos k : Int) % 7 == 1) = true := by simp; omega
              have hsn := fun h => act_sync (bs := bss k) (n := ns k) I.out h8 h
              rw [R.out] at hsn
              have HSN := hide hsn
              have R2 := R.out
              simp only [DS.act, h8, DS.sync] at R2
              cases hdd : d.dead with
              | true =>
                rw [hdd] at R2
                simp only [if_true, Prod.mk.injEq] at R2
                obtain ⟨rd, rfl⟩ := R2
                have sb : strOf d'.byt = strOf d.byt := by rw [← rd]
                have hl' : d'.byt.length = d.byt.length := by rw [← rd]
                have z4' := z4 []
                simp only [List.append_nil] at z4'
                rw [sb] at e1
                rw [hl'] at z1 hle f1 hsy
                clear z4 z5 h7 h8 rd hl' hsn
                go_wp2_with fail
                go_quiet ((go_at_call 23; exact quiet_left (dead_any _ (D5.out.drewN _))))
                go_wp2_with fail
                refine (synced_any _ (D5.out.drewN _)).mono ?_
                rintro e w7 ⟨rfl, rfl⟩
                have f9 : decide (d.byt.length < d'.syn) = false := by simpa using hsy
                go_wp2_with fail
                go_roundw
                case rel => exact ⟨k + 1, sure, d', bv4, by omega, by go_num, rfl, D5.out.drewN _, U5.out.trans (((Upd.refl [] w5).drewN _).below (by simp) hsz5), I4.out⟩
                case measure => simp [intOf]; omega
              | false =>
                rw [hdd] at R2
                simp only [if_false, Bool.false_eq_true, Prod.mk.injEq] at R2
                obtain ⟨rd, rfl⟩ := R2
                have sb : strOf d'.byt = strOf d.byt := by rw [← rd]
                have hl' : d'.byt.length = d.byt.length := by rw [← rd]
                have z4' := z4 []
                simp only [List.append_nil] at z4'
                rw [sb] at e1
                rw [hl'] at z1 hle f1 hsy
                clear z4 z5 h7 h8 rd hl' hsn
                go_wp2_with fail
                go_quiet ((go_at_call 23; exact quiet_left (dead_any _ (D5.out.drewN _))))
                go_wp2_with fail
                refine (synced_any _ (D5.out.drewN _)).mono ?_
                rintro e w7 ⟨rfl, rfl⟩
                have f9 : decide (d.byt.length < d'.syn) = false := by simpa using hsy
                go_wp2_with fail
                go_roundw
                case rel => exact ⟨k + 1, d'.byt, d', bv4, by omega, by go_num, by first | rfl | rw [sb], D5.out.drewN _, U5.out.trans (((Upd.refl [] w5).drewN _).below (by simp) hsz5), HSN.out trivial⟩
                case measure => simp [intOf]; omega
            · have q1 : ((dos k : Int) % 7 == 1) = false := by simp; omega
              cases hdd : d.dead with
              | true =>
                have rd := HDD.out hdd
                have sb : strOf d'.byt = strOf d.byt := by rw [← rd]
                have hl' : d'.byt.length = d.byt.length := by rw [← rd]
                have z4' := z4 []
                simp only [List.append_nil] at z4'
                rw [sb] at e1
                rw [hl'] at z1 hle f1 hsy
                clear z4 z5 h7 h8 rd hl'
                go_wp2_with fail
                go_quiet ((go_at_call 23; exact quiet_left (dead_any _ (D5.out.drewN _))))
                go_wp2_with fail
                refine (synced_any _ (D5.out.drewN _)).mono ?_
                rintro e w7 ⟨rfl, rfl⟩
                have f9 : decide (d.byt.length < d'.syn) = false := by simpa using hsy
                go_wp2_with fail
                go_roundw
                case rel => exact ⟨k + 1, sure, d', bv4, by omega, by go_num, rfl, D5.out.drewN _, U5.out.trans (((Upd.refl [] w5).drewN _).below (by simp) hsz5), I4.out⟩
                case measure => simp [intOf]; omega
              | false =>
                clear z4 z5 h7 h8
                by_cases hv1 : d.byt.length ≤ d'.byt.length
                · have g1 : decide (d.byt.length ≤ d'.byt.length) = true := by simpa using hv1
                  by_cases hv2 : d'.byt.length ≤ d.byt.length + bls k
                  · have g2 : decide (d'.byt.length ≤ d.byt.length + bls k) = true := by simpa using hv2
                    have g2' : decide ((d'.byt.length : Int) ≤ d.byt.length + bls k) = true := by simp; omega
                    go_wp2_with fail
                    go_quiet ((go_at_call 23; exact quiet_left (dead_any _ (D5.out.drewN _))))
                    go_wp2_with fail
                    refine (synced_any _ (D5.out.drewN _)).mono ?_
                    rintro e w7 ⟨rfl, rfl⟩
                    have f9 : decide (d'.byt.length < d'.syn) = false := by simpa using hsy
                    go_wp2_with fail
                    go_roundw
                    case rel => exact ⟨k + 1, sure, d', bv4, by omega, by go_num, rfl, D5.out.drewN _, U5.out.trans (((Upd.refl [] w5).drewN _).below (by simp) hsz5), I4.out⟩
                    case measure => simp [intOf]; omega
                  · have g2 : decide (d'.byt.length ≤ d.byt.length + bls k) = false := by simpa using hv2
                    have g2' : decide ((d'.byt.length : Int) ≤ d.byt.length + bls k) = false := by simp; omega
                    go_wp2_with fail
                    go_quiet ((go_at_call 23; exact quiet_left (dead_any _ (D5.out.drewN _))))
                    go_wp2_with fail
                    refine (synced_any _ (D5.out.drewN _)).mono ?_
                    rintro e w7 ⟨rfl, rfl⟩
                    have f9 : decide (d'.byt.length < d'.syn) = false := by simpa using hsy
                    go_wp2_with fail
                    go_roundw
                    case rel => exact ⟨k + 1, sure, d', bv4, by omega, by go_num, rfl, D5.out.drewN _, U5.out.trans (((Upd.refl [] w5).drewN _).below (by simp) hsz5), I4.out⟩
                    case measure => simp [intOf]; omega
                · have g1 : decide (d.byt.length ≤ d'.byt.length) = false := by simpa using hv1
                  go_wp2_with fail
                  go_quiet ((go_at_call 23; exact quiet_left (dead_any _ (D5.out.drewN _))))
                  go_wp2_with fail
                  refine (synced_any _ (D5.out.drewN _)).mono ?_
                  rintro e w7 ⟨rfl, rfl⟩
                  have f9 : decide (d'.byt.length < d'.syn) = false := by simpa using hsy
                  go_wp2_with fail
                  go_roundw
                  case rel => exact ⟨k + 1, sure, d', bv4, by omega, by go_num, rfl, D5.out.drewN _, U5.out.trans (((Upd.refl [] w5).drewN _).below (by simp) hsz5), I4.out⟩
                  case measure => simp [intOf]; omega
      · have hd5 : decide ((k : Int) < len) = false := by simp; omega
        go_wp2_with fail
        refine (wakes_any _).mono ?_
        rintro e w3 ⟨rfl, hu3⟩
        have U3 := hide hu3
        clear hu3
        go_wp2_with fail
        go_ret
        exact ⟨rfl, (Upd.of_below U.out _).trans U3.out⟩
end Go.Proofs.Ytmgdhloehkdffaa.DiskW
