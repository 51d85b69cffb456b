/- app.Of. -/
import Derived.Test.YthpnnffogbjhpaaGreatDoorApBy
import Derived.Test.YthpnnffogbjhpaaGreatDoorKvTW
import Derived.Test.YthpnnffogbjhpaaGreatDoorSeTkW
set_option linter.unusedSimpArgs false
set_option linter.unusedVariables false
set_option linter.unnecessarySimpa false
namespace Go.Proofs.YthpnnffogbjhpaaGreatDoor.Kv
set_option linter.unusedSimpArgs false
set_option linter.unusedVariables false
open Go.RowKit Go.Lib Go.Proofs.YthpnnffogbjhpaaGreatDoor.Crc Go.Proofs.YthpnnffogbjhpaaGreatDoor.Cm Go.Proofs.YthpnnffogbjhpaaGreatDoor.Var

theorem kvB_len' (m : KM) : m.length ≤ (kvB m).length := by
  have key : ∀ l : KM, l.length ≤ (l.flatMap prB).length := by
    intro l
    induction l with
    | nil => simp
    | cons p l ih =>
      have h1 := uv_len_pos p.1.length
      rw [List.flatMap_cons, List.length_append, List.length_cons]
      simp only [prB, txB, List.length_append]
      omega
  have := key m
  rw [kvB, List.length_append]
  omega
theorem tbB_len' (m : TM) : m.length ≤ (tbB m).length := by
  have key : ∀ l : TM, l.length ≤ (l.flatMap laB).length := by
    intro l
    induction l with
    | nil => simp
    | cons p l ih =>
      have h1 := uv_len_pos p.1
      rw [List.flatMap_cons, List.length_append, List.length_cons]
      simp only [laB, List.length_append]
      omega
  have := key m
  rw [tbB, List.length_append]
  omega
theorem takeK_zero' {lim : Nat} {s : Int × List UInt8} (h : (takeK lim s).2.1 = 0) : ∃ m r, takeK lim s = (some m, 0, (0, r)) := by
  unfold takeK takeF at *
  rcases ht : takeL lim (uintM s).1 (uintM s).2 [] [] with ⟨_ | m, s'⟩
  · rw [ht] at h; simp at h
  · rw [ht] at h
    simp only at h ⊢
    split at h
    · rename_i h1; exact absurd h h1
    · rename_i h1
      rw [if_neg h1]
      obtain ⟨e, r⟩ := s'
      have : e = 0 := by simpa using h1
      subst this
      exact ⟨m, r, rfl⟩
theorem sTakeK_zero {lim : Nat} {s : Int × List UInt8} (h : (sTakeK lim s).2.1 = 0) : ∃ m r, sTakeK lim s = (some m, 0, (0, r)) := by
  unfold sTakeK sTakeF at *
  rcases ht : sTakeL lim (uintM s).1 (uintM s).2 [] 0 with ⟨_ | m, s'⟩
  · rw [ht] at h; simp at h
  · rw [ht] at h
    simp only at h ⊢
    split at h
    · rename_i h1; exact absurd h h1
    · rename_i h1
      rw [if_neg h1]
      obtain ⟨e, r⟩ := s'
      have : e = 0 := by simpa using h1
      subst this
      exact ⟨m, r, rfl⟩
theorem takeK_err {lim : Nat} {s : Int × List UInt8} (h : s.1 ≠ 0) : takeK lim s = (none, s.1, s) := by
  have hu : uintM s = (0, s) := by unfold uintM; rw [if_neg h]
  unfold takeK
  rw [hu]
  simp only
  rw [takeL_err _ _ _ _ h]
  unfold takeF
  simp only
  rw [if_pos h]
/-- What Of makes of bytes. -/
def ofM (bs : List UInt8) : Option Ap × Int :=
  if (takeK 4096 (uintM (0, bs)).2).2.1 ≠ 0 then (none, (takeK 4096 (uintM (0, bs)).2).2.1) else
  if (sTakeK 4096 (takeK 4096 (uintM (0, bs)).2).2.2).2.1 ≠ 0 then (none, (sTakeK 4096 (takeK 4096 (uintM (0, bs)).2).2.2).2.1) else
  if (doneM (sTakeK 4096 (takeK 4096 (uintM (0, bs)).2).2.2).2.2).1 ≠ 0 then (none, (doneM (sTakeK 4096 (takeK 4096 (uintM (0, bs)).2).2.2).2.2).1) else
  (some ⟨((takeK 4096 (uintM (0, bs)).2).1).getD [], ((sTakeK 4096 (takeK 4096 (uintM (0, bs)).2).2.2).1).getD [], (uintM (0, bs)).1⟩, 0)
theorem ofM_bad {bs : List UInt8} (h : (ofM bs).2 ≠ 0) : (ofM bs).1 = none ∧ ((ofM bs).2 = 10 ∨ (ofM bs).2 = 11) := by
  have hu : (uintM (0, bs)).2.1 = 0 ∨ (uintM (0, bs)).2.1 = 10 ∨ (uintM (0, bs)).2.1 = 11 := uint_err (.inl rfl)
  unfold ofM at *
  by_cases h1 : (takeK 4096 (uintM (0, bs)).2).2.1 = 0
  · rw [if_neg (by simpa using h1)] at h ⊢
    obtain ⟨m, r, hm⟩ := takeK_zero' h1
    rw [hm] at h ⊢
    simp only at h ⊢
    by_cases h2 : (sTakeK 4096 (0, r)).2.1 = 0
    · rw [if_neg (by simpa using h2)] at h ⊢
      obtain ⟨t, q, ht⟩ := sTakeK_zero h2
      rw [ht] at h ⊢
      simp only at h ⊢
      by_cases h3 : (doneM (0, q)).1 = 0
      · rw [if_neg (by simpa using h3)] at h
        simp at h
      · rw [if_pos h3]
        refine ⟨rfl, ?_⟩
        unfold doneM at *
        simp only [ne_eq, not_true_eq_false, if_false] at h3 ⊢
        split at h3
        · rename_i h4; rw [if_pos h4]; exact .inr rfl
        · simp at h3
    · rw [if_pos h2]
      obtain ⟨h5, h6⟩ := sTakeK_bad (s := (0, r)) (.inl rfl) h2
      exact ⟨rfl, h6⟩
  · rw [if_pos h1]
    obtain ⟨h5, h6⟩ := takeK_bad hu h1
    exact ⟨rfl, h6⟩
theorem ofM_ok {bs : List UInt8} (h : (ofM bs).2 = 0) (hl : bs.length ≤ 3000) : ∃ a, ofM bs = (some a, 0) ∧ bs = apB a ∧ ApW a := by
  unfold ofM at *
  by_cases h1 : (takeK 4096 (uintM (0, bs)).2).2.1 = 0
  · rw [if_neg (by simpa using h1)] at h ⊢
    obtain ⟨m, r, hm⟩ := takeK_zero' h1
    rw [hm] at h ⊢
    simp only at h ⊢
    by_cases h2 : (sTakeK 4096 (0, r)).2.1 = 0
    · rw [if_neg (by simpa using h2)] at h ⊢
      obtain ⟨t, q, ht⟩ := sTakeK_zero h2
      rw [ht] at h ⊢
      simp only at h ⊢
      by_cases h3 : (doneM (0, q)).1 = 0
      · rw [if_neg (by simpa using h3)]
        obtain ⟨n, ⟨e, s1⟩, hu⟩ : ∃ n s1, uintM (0, bs) = (n, s1) := ⟨_, _, rfl⟩
        rw [hu] at hm ⊢
        simp only at hm ⊢
        have he : e = 0 := by
          by_cases he : e = 0
          · exact he
          · have := takeK_err (lim := 4096) (s := (e, s1)) he
            rw [hm] at this
            simp at this
        subst he
        obtain ⟨-, h4⟩ := uint_ok hu
        obtain ⟨h5, h6⟩ := takeK_ok hm
        obtain ⟨h7, h8⟩ := sTakeK_ok ht
        simp only at h4 h5 h7
        have hq : q = [] := by
          unfold doneM at h3
          simp only [ne_eq, not_true_eq_false, if_false] at h3
          split at h3
          · simp at h3
          · rename_i h9
            exact List.eq_nil_of_length_eq_zero (by simpa using h9)
        subst hq
        have hb : bs = apB ⟨m, t, n⟩ := by rw [h4, h5, h7, apB]; simp
        have l1 := kvB_len' m
        have l2 := tbB_len' t
        have l3 : bs.length = (uv n).length + ((kvB m).length + (tbB t).length) := by rw [hb, apB]; simp
        have hn := uintM_lt (0, bs)
        rw [hu] at hn
        exact ⟨⟨m, t, n⟩, rfl, hb, ⟨h6, by simp only; omega, ⟨h8.1, by simp only; omega, fun p hp => by obtain ⟨k1, k2, k3, k4, k5⟩ := h8.2 p hp; exact ⟨k2, k3, by omega, by omega⟩⟩, hn⟩⟩
      · rw [if_pos h3] at h
        exact absurd h h3
    · rw [if_pos h2] at h
      exact absurd h h2
  · rw [if_pos h1] at h
    exact absurd h h1
theorem rds_of' {w : World} {R : Nat} {lim : Int} {xo : Option Addr} {m c : Nat} {bs : List UInt8} {T : Nat → Prop} (h : RdAt w R 0 xo m c lim) (hs : SrcAt w xo m c (bs.map u8v) 1) (hc : m ≤ c) (hT : ∀ a, xo = some a → m ≠ 0 → T a.block) : RdS w T R lim (0, bs) :=
  ⟨xo, m, c, h, fun _ => ⟨hs, hc, hT⟩⟩
theorem src_lt' {w : World} {xo : Option Addr} {m c : Nat} {bs : List UInt8} (hs : SrcAt w xo m c (bs.map u8v) 1) : ∀ a, xo = some a → m ≠ 0 → a.block < w.heap.size := fun a e hm => by
  have hl := hs.len
  have h0 : 0 < (bs.map u8v).length := by omega
  have := hs.cells a e 0 _ (List.getElem?_eq_getElem h0)
  have := World.block_lt_of_cell? w _ this
  rwa [show (a.add 0).block = a.block by unfold Addr.add; split <;> rfl] at this
def OfIs (w : World) (o : Option Ap) (v : Value) (w' : World) : Prop := match o with
  | none => v = .pointer none
  | some a => ∃ p, v = .pointer (some ⟨p, 0, none⟩) ∧ ApIs w' w.heap.size w'.heap.size p a
set_option maxRecDepth 100000 in
set_option maxHeartbeats 4000000 in
theorem aof_any {bo : Option Addr} {bl bc : Nat} {bs : List UInt8} (w : World) (hs : SrcAt w bo bl bc (bs.map u8v) 1) (hc : bl ≤ bc) (hb : bs.length ≤ 1000000) :
    Calls Tryz.prog 7 #[.slice bo bl bc] w fun e w' => (∃ v, e = .returned (.tuple #[v, .int .i64 (ofM bs).2]) ∧ OfIs w (ofM bs).1 v w') ∧ Upd [] w w' := by
  have SRC := hide hs
  have SLT := hide (src_lt' hs)
  clear hs
  obtain ⟨n, s1, e1⟩ : ∃ n s1, uintM (0, bs) = (n, s1) := ⟨_, _, rfl⟩
  have hl1 := uintM_len (0, bs)
  have hM : ofM bs = if (takeK 4096 s1).2.1 ≠ 0 then (none, (takeK 4096 s1).2.1) else
      if (sTakeK 4096 (takeK 4096 s1).2.2).2.1 ≠ 0 then (none, (sTakeK 4096 (takeK 4096 s1).2.2).2.1) else
      if (doneM (sTakeK 4096 (takeK 4096 s1).2.2).2.2).1 ≠ 0 then (none, (doneM (sTakeK 4096 (takeK 4096 s1).2.2).2.2).1) else
      (some ⟨((takeK 4096 s1).1).getD [], ((sTakeK 4096 (takeK 4096 s1).2.2).1).getD [], n⟩, 0) := by unfold ofM; rw [e1]
  rw [e1] at hl1
  simp only at hl1
  have E1 := hide e1; have HM := hide hM
  clear e1 hM
  go_enter Tryz.func7, Tryz.ntmps7
  go_wp2_with fail
  refine (Var.new_any (xo := bo) (m := bl) (c := bc) (lim := ((4096 : Nat) : Int)) w).mono ?_
  rintro e w1 ⟨_, rfl, rfl, hr1, hu1⟩
  have r1 := rds_of' (T := fun k => k < w.heap.size) hr1 (src_upd SRC.out hu1 (by simp)) hc (fun a ha hm => SLT.out a ha hm)
  have hlt1 := blk_lt hr1.hR
  have R1 := hide r1; have U1 := hide hu1
  obtain ⟨R, hR⟩ : ∃ R, w.heap.size = R := ⟨_, rfl⟩
  have KR := hide hR
  rw [hR] at R1 hlt1 ⊢
  clear hr1 hu1 r1 hR
  go_wp2_with fail
  refine (uint_s _ R1.out).mono ?_
  rw [E1.out]
  rintro e w2 ⟨rfl, hr2, hu2⟩
  have R2 := hide hr2; have U2 := hide (U1.out.trans_new hu2 (fun k hk => .inr (by have := KR.out; simp at hk; omega)))
  have hz2 := hu2.size
  clear hr2 hu2 R1
  simp only
  go_wp2_with fail
  refine (take_any w2 R2.out (by omega) (fun k hk => by have := KR.out; omega) (by omega) (by omega)).mono ?_
  rintro e w3 ⟨⟨v3, rfl, hv3⟩, hr3, hu3⟩
  have U3 := hide (U2.out.trans_new hu3 (fun k hk => .inr (by have := KR.out; simp at hk; omega)))
  have hz3 := hu3.size
  by_cases h0 : (takeK 4096 s1).2.1 = 0
  · obtain ⟨m, r, ht⟩ := takeK_zero' h0
    have hM2 := HM.out
    rw [ht] at hv3 hr3 hM2 ⊢
    simp only [ne_eq, not_true_eq_false, if_false, Option.getD_some] at hM2
    obtain ⟨b, g, rfl, hst, hb1, hg1⟩ := hv3
    obtain ⟨hkb, hok⟩ : s1.2 = kvB m ++ r ∧ KvOk m := takeK_ok ht
    simp only at hr3 ⊢
    have hrl : r.length ≤ 1000000 := by rw [hkb, List.length_append] at hl1; omega
    have HM2 := hide hM2; have ST3 := hide hst; have R3 := hide hr3
    clear hM2 HM hst hr3 h0 ht hkb hu3 R2
    go_wp2_with fail
    refine (stake_any w3 R3.out (by omega) (fun k hk => by have := KR.out; omega) (by simp only; omega) (by omega)).mono ?_
    rintro e w4 ⟨⟨v4, rfl, hv4⟩, hr4, hu4⟩
    have U4 := hide (U3.out.trans_new hu4 (fun k hk => .inr (by have := KR.out; simp at hk; omega)))
    have ST4 := hide (ST3.out.upd hu4 (by simp; omega) (by simp; omega))
    have hz4 := hu4.size
    have hlb := blk_lt ST3.out.blk; have hlg := MapKind.is_lt ST3.out.map
    by_cases h5 : (sTakeK 4096 (0, r)).2.1 = 0
    · obtain ⟨t, q, ht⟩ := sTakeK_zero h5
      have hM3 := HM2.out
      rw [ht] at hv4 hr4 hM3 ⊢
      simp only [ne_eq, not_true_eq_false, if_false, Option.getD_some] at hM3
      obtain ⟨tb, tc, tg, rfl, htt, hb2, hc2, hg2⟩ := hv4
      simp only at hr4 ⊢
      have HM3 := hide hM3; have TT4 := hide htt; have R4 := hide hr4
      clear hM3 HM2 htt hr4 h5 ht hu4 R3 ST3
      go_wp2_with fail
      refine (done_s w4 R4.out).mono ?_
      rintro e w5 ⟨rfl, hr5, hu5⟩
      have U5 := hide (U4.out.trans_new hu5 (fun k hk => .inr (by have := KR.out; simp at hk; omega)))
      have ST5 := hide (ST4.out.upd hu5 (by simp; omega) (by simp; omega))
      have TT5 := hide (TT4.out.upd hu5 (by simp; omega) (by simp; omega) (by simp; omega))
      have hz5 := hu5.size
      have hm0 := blk_lt ST5.out.blk; have hm1 := MapKind.is_lt ST5.out.map; have hm2 := blk_lt TT5.out.blk; have hm3 := blk_lt TT5.out.cli; have hm4 := MapKind.is_lt TT5.out.map
      clear hr5 hu5 R4 ST4 TT4
      by_cases h6 : (doneM (0, q)).1 = 0
      · have hM4 := HM3.out
        rw [if_neg (by simpa using h6)] at hM4
        have HM4 := hide hM4
        rw [h6]
        clear hM4 HM3 h6
        go_wp2_with fail
        go_ret2
        rw [HM4.out]
        refine ⟨⟨_, rfl, w5.heap.size, rfl, b, g, tb, tc, tg, ⟨blk_new w5 _, ST5.out.upd_nil ((Upd.refl [] w5).alloc _), TT5.out.upd_nil ((Upd.refl [] w5).alloc _), by omega⟩, ?_⟩, U5.out.alloc _⟩
        have := KR.out
        simp only [World.size_alloc]
        omega
      · have hM4 := HM3.out
        rw [if_pos (by simpa using h6)] at hM4
        have q4 : ((doneM (0, q)).1 != 0) = true := by simpa using h6
        have HM4 := hide hM4
        generalize (doneM (0, q)).1 = er at q4 HM4 ⊢
        clear hM4 HM3 h6
        go_wp2_with fail
        go_ret2
        rw [HM4.out]
        exact ⟨⟨_, rfl, rfl⟩, U5.out⟩
    · have hM3 := HM2.out
      rw [if_pos (by simpa using h5)] at hM3
      have q4 : ((sTakeK 4096 (0, r)).2.1 != 0) = true := by simpa using h5
      have HM3 := hide hM3
      clear hM3 HM2 hv4 hr4 h5 hu4 R3
      generalize (sTakeK 4096 (0, r)).2.1 = er at q4 HM3 ⊢
      go_wp2_with fail
      go_ret2
      rw [HM3.out]
      exact ⟨⟨_, rfl, rfl⟩, U4.out⟩
  · have hM2 := HM.out
    rw [if_pos (by simpa using h0)] at hM2
    have q4 : ((takeK 4096 s1).2.1 != 0) = true := by simpa using h0
    have HM2 := hide hM2
    clear hM2 HM hv3 hr3 h0 hu3 R2
    generalize (takeK 4096 s1).2.1 = er at q4 HM2 ⊢
    go_wp2_with fail
    go_ret2
    rw [HM2.out]
    exact ⟨⟨_, rfl, rfl⟩, U3.out⟩
end Go.Proofs.YthpnnffogbjhpaaGreatDoor.Kv
