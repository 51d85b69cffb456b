/- KvEn, KvTkM, KvTkW, RangeP, KvKy, KvKz, KvTx, KvPt, KvTk in one text (merge.py). -/
import Derived.Test.YtcjflnnjieolfaaDoorKvS
import Derived.Test.YtcjflnnjieolfaaDoorKvTq
import Derived.Test.YtcjflnnjieolfaaDoorVarX
import Derived.Test.YtcjflnnjieolfaaDoorKvN
import Derived.Test.YtcjflnnjieolfaaDoorVarY
import Derived.Test.YtcjflnnjieolfaaDoorBase
import Derived.Test.YtcjflnnjieolfaaDoorMpR
import Derived.Test.YtcjflnnjieolfaaDoorKvRq
import Derived.Test.YtcjflnnjieolfaaDoorKvLs
import Derived.Test.YtcjflnnjieolfaaDoorKvV
import Derived.Test.YtcjflnnjieolfaaDoorMys
import Derived.Test.YtcjflnnjieolfaaDoorKvW9
import Derived.Test.YtcjflnnjieolfaaDoorZreg2
import Derived.WideKeyEntry
namespace Go.Proofs.YtcjflnnjieolfaaDoor.Kv
open Go.RowKit Go.Proofs.YtcjflnnjieolfaaDoor.Crc Go.Proofs.YtcjflnnjieolfaaDoor.Cm

theorem kv_entry {w : World} {g : Nat} {m : KM} {k v : List UInt8} (h : kvK.is w g m) (hk : k.length ≤ maxLen) (hv : v.length ≤ maxLen) (hn : m.length < maxLen) :
    ∃ v0 st wa w', (Instr.mapEntry 74 (.map (some g)) (.string (strOf k))).run Tryd.prog w = .ok (.tuple #[v0, goInt st]) wa ∧
      (Instr.entryStore 74 (.map (some g)) (.int .i64 st) (.string (strOf v))).run Tryd.prog wa = .ok () w' ∧ kvK.is w' g (mput strK m k v) ∧ Upd [g] w w' := by
  obtain ⟨w', hr, hm, hu⟩ := MapKind.store h (k := k) (v := v) hk hv hn
  have hlt := MapKind.is_lt h
  obtain ⟨es, clock, hb, F, hs, hd⟩ := h
  obtain ⟨v0, st, es1, clock1, h1, -, h2⟩ := WideElems.entry_then_store (WideMaps.string_law Tryd.underlying9) Tryd.underlying74 (z := .string (strOf [])) zeroStr hb F (kvK.hkey hk)
  have hw : (ChangeMaps.setBlock w g (.map es1 clock1)).heap[g]? = some (.map es1 clock1) := by
    simp [ChangeMaps.setBlock, hlt]
  obtain ⟨es', clock', h3, h4⟩ := h2 _ (.string (strOf v)) hw
  have e : ChangeMaps.setBlock (ChangeMaps.setBlock w g (.map es1 clock1)) g (.map es' clock') = ChangeMaps.setBlock w g (.map es' clock') := by
    simp [ChangeMaps.setBlock]
  have e2 : ChangeMaps.setBlock w g (.map es' clock') = w' := by
    have hr' : (Instr.mapUpdate 74 (.map (some g)) (.string (strOf k)) (.string (strOf v))).run Tryd.prog w = .ok () w' := hr
    have h4' : (Instr.mapUpdate 74 (.map (some g)) (.string (strOf k)) (.string (strOf v))).run Tryd.prog w = .ok () (ChangeMaps.setBlock w g (.map es' clock')) := h4
    rw [hr'] at h4'
    simp only [Result.ok.injEq, true_and] at h4'
    exact h4'.symm
  refine ⟨v0, st, _, w', h1, ?_, hm, hu⟩
  have h5 := h3
  rw [e, e2] at h5
  exact h5
end Go.Proofs.YtcjflnnjieolfaaDoor.Kv
namespace Go.Proofs.YtcjflnnjieolfaaDoor.Kv
set_option linter.unusedSimpArgs false
set_option linter.unusedVariables false
set_option linter.unnecessarySimpa false
open Go.RowKit Go.Proofs.YtcjflnnjieolfaaDoor.Crc Go.Proofs.YtcjflnnjieolfaaDoor.Cm Go.Proofs.YtcjflnnjieolfaaDoor.Var

/-- A text's bytes. -/
def txB (t : List UInt8) : List UInt8 := uv t.length ++ t
def prB (p : List UInt8 × List UInt8) : List UInt8 := txB p.1 ++ txB p.2
def kvB (m : KM) : List UInt8 := uv m.length ++ m.flatMap prB
theorem text_ok {lim : Nat} {s : Int × List UInt8} {t r : List UInt8} (h : textM lim s = (t, (0, r))) : s.1 = 0 ∧ s.2 = txB t ++ r ∧ t.length ≤ lim := by
  unfold textM at h
  split at h
  · rename_i h1
    simp only [Prod.mk.injEq] at h
    exact absurd (by rw [h.2]) h1
  rename_i h1'
  have h1 : (uintM s).2.1 = 0 := by simpa using h1'
  clear h1'
  split at h
  · simp at h
  rename_i h2
  split at h
  · simp at h
  rename_i h3
  simp only [Prod.mk.injEq] at h
  obtain ⟨ht, -, hr⟩ := h
  by_cases h0 : s.1 = 0
  · obtain ⟨n, k, e, hrd⟩ : ∃ n k e, rd s.2 = (n, k, e) := ⟨_, _, _, rfl⟩
    have hU : uintM s = (n, (e, s.2.drop k)) := by unfold uintM; rw [if_pos h0, hrd]
    rw [hU] at h1 h2 h3 ht hr
    simp only at h1 h2 h3 ht hr
    obtain ⟨a, b, c, d, f⟩ := rd_ok hrd h1
    have hl : t.length = n := by rw [← ht, List.length_take]; omega
    refine ⟨h0, ?_, by omega⟩
    rw [txB, hl, d, ← ht, ← hr, List.append_assoc, List.take_append_drop, List.take_append_drop]
  · have hU : uintM s = (0, s) := by unfold uintM; rw [if_neg h0]
    rw [hU] at h1
    exact absurd h1 h0
theorem text_err {lim : Nat} {s : Int × List UInt8} (h : s.1 = 0 ∨ s.1 = 10 ∨ s.1 = 11) : (textM lim s).2.1 = 0 ∨ (textM lim s).2.1 = 10 ∨ (textM lim s).2.1 = 11 := by
  have hu : (uintM s).2.1 = 0 ∨ (uintM s).2.1 = 10 ∨ (uintM s).2.1 = 11 := by
    unfold uintM
    split
    · rcases rd_err s.2 with h | ⟨-, -, h | h⟩ <;> simp [h]
    · exact h
  unfold textM
  split
  · exact hu
  split
  · simp
  split <;> simp
theorem text_len {lim : Nat} (s : Int × List UInt8) : (textM lim s).2.2.length ≤ s.2.length := by
  have := uintM_len s
  unfold textM
  split
  · exact this
  split
  · exact this
  split
  · exact this
  · simp; omega
theorem text_le {lim : Nat} (s : Int × List UInt8) : (textM lim s).1.length ≤ lim := by
  unfold textM
  split
  · simp
  split
  · simp
  split
  · simp
  · rw [List.length_take]; omega
/-- kv.Take's loop: what it has at the end (none: the keys do not rise), the reader. -/
def takeL (lim : Nat) : Nat → (Int × List UInt8) → KM → List UInt8 → Option KM × (Int × List UInt8)
  | 0, s, m, _ => (some m, s)
  | n + 1, s, m, last => if s.1 ≠ 0 then (some m, s) else
    if (textM lim (textM lim s).2).2.1 = 0 ∧ (¬ last < (textM lim s).1 ∨ 32 < (textM lim s).1.length ∨ 64 < (textM lim (textM lim s).2).1.length) then (none, (textM lim (textM lim s).2).2)
    else takeL lim n (textM lim (textM lim s).2).2 (mput strK m (textM lim s).1 (textM lim (textM lim s).2).1) (textM lim s).1
theorem put_end {m : KM} {k v : List UInt8} (h : ∀ p ∈ m, p.1 < k) : mput strK m k v = m ++ [(k, v)] := by
  have hd : mdel m k = m := List.filter_eq_self.2 fun p hp => by
    have : p.1 ≠ k := fun e => lex_irrefl k (by have := h p hp; rwa [e] at this)
    simp [this]
  unfold mput
  rw [hd]
  clear hd
  induction m with
  | nil => rfl
  | cons p m ih =>
    have h1 := h p (by simp)
    have h2 : ¬ k < p.1 := fun h2 => lex_irrefl _ (lex_trans h1 h2)
    simp only [mins, strK_lt, h2, decide_false, Bool.false_eq_true, if_false, List.cons_append]
    rw [ih fun q hq => h q (by simp [hq])]
theorem takeL_err {lim : Nat} : ∀ (n : Nat) (s : Int × List UInt8) (m : KM) (last : List UInt8) , s.1 ≠ 0 → takeL lim n s m last = (some m, s)
  | 0, _, _, _, _ => rfl
  | n + 1, s, m, last, h => by rw [takeL, if_pos h]
theorem takeL_ok {lim : Nat} : ∀ (n : Nat) (s : Int × List UInt8) (m : KM) (last : List UInt8) (m' : KM) (r : List UInt8), takeL lim n s m last = (some m', (0, r)) → KvOk m → (∀ p ∈ m, p.1 < last ∨ p.1 = last) →
    ∃ l, m' = m ++ l ∧ l.length = n ∧ s.2 = l.flatMap prB ++ r ∧ KvOk m' := by
  intro n
  induction n with
  | zero =>
    intro s m last m' r h hm hl
    simp only [takeL, Prod.mk.injEq, Option.some.injEq] at h
    exact ⟨[], by simp [h.1], rfl, by simp [h.2], h.1 ▸ hm⟩
  | succ n ih =>
    intro s m last m' r h hm hl
    by_cases h0 : s.1 = 0
    · rw [takeL, if_neg (by simpa using h0)] at h
      obtain ⟨k, s1, h1⟩ : ∃ k s1, textM lim s = (k, s1) := ⟨_, _, rfl⟩
      obtain ⟨v, s2, h2⟩ : ∃ v s2, textM lim s1 = (v, s2) := ⟨_, _, rfl⟩
      simp only [h1, h2] at h
      by_cases h3 : s2.1 = 0
      · obtain ⟨e2, r2⟩ := s2
        obtain rfl : e2 = 0 := h3
        obtain ⟨a1, a2, a3⟩ := text_ok h2
        obtain ⟨e1, r1⟩ := s1
        obtain rfl : e1 = 0 := a1
        obtain ⟨b1, b2, b3⟩ := text_ok h1
        by_cases h4 : ¬ last < k ∨ 32 < k.length ∨ 64 < v.length
        · rw [if_pos ⟨rfl, h4⟩] at h; simp at h
        rw [if_neg (fun h => h4 h.2)] at h
        have h5 : last < k := Classical.byContradiction fun h => h4 (Or.inl h)
        have h6 : k.length ≤ 32 := by omega
        have h8 : v.length ≤ 64 := by omega
        have h7 : ∀ p ∈ m, p.1 < k := fun p hp => by
          rcases hl p hp with h | h
          · exact lex_trans h h5
          · rw [h]; exact h5
        obtain ⟨l, c1, c2, c3, c4⟩ := ih _ _ _ _ _ h (hm.put h6 h8) (fun p hp => by
          rcases mem_put hp with h | h
          · exact Or.inr (by rw [h])
          · exact Or.inl (h7 p h))
        refine ⟨(k, v) :: l, ?_, by simp [c2], ?_, c4⟩
        · rw [c1, put_end h7]; simp
        · rw [b2]
          simp only at a2 c3
          rw [a2, c3]
          simp [prB]
      · rw [if_neg (fun h => h3 h.1), takeL_err _ _ _ _ h3] at h
        simp only [Prod.mk.injEq] at h
        exact absurd (by rw [h.2]) h3
    · rw [takeL_err _ _ _ _ h0] at h
      simp only [Prod.mk.injEq] at h
      exact absurd (by rw [h.2]) h0
theorem takeL_bad {lim : Nat} : ∀ (n : Nat) (s : Int × List UInt8) (m : KM) (last : List UInt8), s.1 = 0 ∨ s.1 = 10 ∨ s.1 = 11 → ((takeL lim n s m last).2.1 = 0 ∨ (takeL lim n s m last).2.1 = 10 ∨ (takeL lim n s m last).2.1 = 11) := by
  intro n
  induction n with
  | zero => intro s m last h; exact h
  | succ n ih =>
    intro s m last h
    rw [takeL]
    split
    · exact h
    split
    · exact text_err (text_err h)
    · exact ih _ _ _ (text_err (text_err h))
/-- kv.Take: the store or none, the error, the reader. -/
def takeF : Option KM × (Int × List UInt8) → Option KM × Int × (Int × List UInt8)
  | (none, s') => (none, 11, s')
  | (some m, s') => if s'.1 ≠ 0 then (none, s'.1, s') else (some m, 0, s')
def takeK (lim : Nat) (s : Int × List UInt8) : Option KM × Int × (Int × List UInt8) := takeF (takeL lim (uintM s).1 (uintM s).2 [] [])
theorem takeK_bad {lim : Nat} {s : Int × List UInt8} (h : s.1 = 0 ∨ s.1 = 10 ∨ s.1 = 11) (he : (takeK lim s).2.1 ≠ 0) : (takeK lim s).1 = none ∧ ((takeK lim s).2.1 = 10 ∨ (takeK lim s).2.1 = 11) := by
  have hu : (uintM s).2.1 = 0 ∨ (uintM s).2.1 = 10 ∨ (uintM s).2.1 = 11 := by
    unfold uintM
    split
    · rcases rd_err s.2 with h | ⟨-, -, h | h⟩ <;> simp [h]
    · exact h
  have hb := takeL_bad (lim := lim) (uintM s).1 (uintM s).2 [] [] hu
  unfold takeK takeF at *
  rcases ht : takeL lim (uintM s).1 (uintM s).2 [] [] with ⟨_ | m, s'⟩
  · simp
  · rw [ht] at hb he
    simp only at hb he ⊢
    split at he
    · rename_i h1
      rw [if_pos h1]
      exact ⟨rfl, hb.resolve_left (by simpa using h1)⟩
    · simp at he
theorem takeK_ok {lim : Nat} {s : Int × List UInt8} {r : List UInt8} {m : KM} (h : takeK lim s = (some m, 0, (0, r))) : s.2 = kvB m ++ r ∧ KvOk m := by
  unfold takeK takeF at h
  rcases ht : takeL lim (uintM s).1 (uintM s).2 [] [] with ⟨_ | m', s'⟩
  · rw [ht] at h; simp at h
  rw [ht] at h
  simp only at h
  split at h
  · simp at h
  simp only [Prod.mk.injEq, Option.some.injEq] at h
  obtain ⟨rfl, -, rfl⟩ := h
  obtain ⟨l, c1, c2, c3, c4⟩ := takeL_ok _ _ _ _ _ _ ht KvOk.nil (by simp)
  have hu : (uintM s).2.1 = 0 := by
    by_cases h : (uintM s).2.1 = 0
    · exact h
    · rw [takeL_err _ _ _ _ h] at ht
      simp only [Prod.mk.injEq] at ht
      rw [ht.2]
  rw [List.nil_append] at c1
  subst c1
  refine ⟨?_, c4⟩
  by_cases h0 : s.1 = 0
  · obtain ⟨n, k, e, hrd⟩ : ∃ n k e, rd s.2 = (n, k, e) := ⟨_, _, _, rfl⟩
    have hU : uintM s = (n, (e, s.2.drop k)) := by unfold uintM; rw [if_pos h0, hrd]
    rw [hU] at hu c2 c3
    simp only at hu c2 c3
    obtain ⟨a, b, c, d, f⟩ := rd_ok hrd hu
    rw [kvB, c2, d, List.append_assoc, ← c3, List.take_append_drop]
  · have hU : uintM s = (0, s) := by unfold uintM; rw [if_neg h0]
    rw [hU] at hu
    exact absurd hu h0
/-- A store, and the same with one key more. -/
theorem put_other {m : KM} {k v : List UInt8} (h : mfind m k = none) : mput strK m k v ≠ m := fun e => by
  have := mfind_put (K := strK) (l := m) (k := k) (v := v) (j := k)
  rw [e, h, if_pos rfl] at this
  simp at this
/-- The keys of a store, in whatever order they came, sorted. -/
theorem keys_sort {m : KM} {ss : List (List UInt8)} (hr : Rise strK m) (hn : ss.Nodup) (hk : ∀ k, k ∈ ss ↔ ∃ v, mfind m k = some v) : ss.mergeSort (fun x y => decide (x ≤ y)) = m.map (·.1) := by
  have hp := List.mergeSort_perm ss fun x y => decide (x ≤ y)
  have hs : (ss.mergeSort fun x y => decide (x ≤ y)).Pairwise fun x y => decide (x ≤ y) = true := List.pairwise_mergeSort (fun a b c h1 h2 => by simp at *; exact List.le_trans h1 h2) (fun a b => by simp; exact List.le_total a b) ss
  have hnd : (ss.mergeSort fun x y => decide (x ≤ y)).Nodup := hp.nodup_iff.2 hn
  refine asc_ext ?_ ?_ fun x => ?_
  · have h2 := hs.and hnd
    refine h2.imp fun {a b} h => ?_
    obtain ⟨h3, h4⟩ := h
    rcases lex_total h4 with h5 | h5
    · exact h5
    · simp at h3
      exact absurd h5 h3
  · have := List.pairwise_map.2 (hr.imp fun {a b} h => (show a.1 < b.1 by simpa [strK_lt] using h))
    exact this
  · rw [hp.mem_iff, hk]
    constructor
    · rintro ⟨v, hv⟩
      exact List.mem_map.2 ⟨_, mfind_mem hv, rfl⟩
    · intro h
      obtain ⟨p, hp, rfl⟩ := List.mem_map.1 h
      exact mfind_of_mem hp
end Go.Proofs.YtcjflnnjieolfaaDoor.Kv
namespace Go.Proofs.YtcjflnnjieolfaaDoor.Kv
set_option linter.unusedSimpArgs false
set_option linter.unusedVariables false
set_option linter.unnecessarySimpa false
open Go.RowKit Go.Lib Go.Proofs.YtcjflnnjieolfaaDoor.Crc Go.Proofs.YtcjflnnjieolfaaDoor.Cm Go.Proofs.YtcjflnnjieolfaaDoor.Var

theorem strOf_toL (s : List UInt8) : (strOf s).toList = s := by
  simp [strOf]
def TakeIs (w : World) (o : Option KM) (v : Value) (w' : World) : Prop := match o with
  | none => v = .pointer none
  | some m => ∃ b g, v = .pointer (some ⟨b, 0, none⟩) ∧ StIs w' b g m ∧ w.heap.size ≤ b ∧ w.heap.size ≤ g
set_option maxRecDepth 100000 in
set_option maxHeartbeats 4000000 in
theorem take_any {T : Nat → Prop} {R lim : Nat} {s : Int × List UInt8} (w : World) (h : RdS w T R (lim : Int) s) (hR : R < w.heap.size) (hT : ∀ k, T k → k < w.heap.size) (hB : s.2.length ≤ 1000000) (hlim : lim ≤ 1000000) :
    Calls Tryd.prog 22 #[.pointer (some ⟨R, 0, none⟩)] w fun e w' => (∃ v, e = .returned (.tuple #[v, .int .i64 (takeK lim s).2.1]) ∧ TakeIs w (takeK lim s).1 v w') ∧ RdS w' T R (lim : Int) (takeK lim s).2.2 ∧ Upd [R] w w' := by
  have HR := hide h
  clear h
  obtain ⟨n, s1, e1⟩ : ∃ n s1, uintM s = (n, s1) := ⟨_, _, rfl⟩
  have hn := uintM_lt s
  have hl1 := uintM_len s
  rw [e1] at hn hl1
  simp only at hn hl1
  have E1 := hide e1
  clear e1
  go_enter Tryd.func22, Tryd.ntmps22
  go_wp2_with fail
  refine (new_any w).mono ?_
  rintro e w1 ⟨rfl, hs1, hu1⟩
  have S1 := hide hs1; have U1 := hide hu1; have R1 := hide (HR.out.upd hu1)
  clear hs1 hu1
  go_wp2_with fail
  refine (uint_s _ R1.out).mono ?_
  rw [E1.out]
  rintro e w2 ⟨rfl, hr2, hu2⟩
  have S2 := hide (S1.out.upd hu2 (by simp; omega) (by simp; omega)); have R2 := hide hr2; have U2 := hide ((U1.out.mono (by simp)).trans hu2)
  clear hr2 hu2 R1 S1
  simp only
  have hg0 : takeL lim n s1 [] [] = takeL lim (uintM s).1 (uintM s).2 [] [] := by rw [E1.out]
  obtain ⟨o, s9, e9⟩ : ∃ o s9, takeL lim n s1 [] [] = (o, s9) := ⟨_, _, rfl⟩
  have hk9 : takeK lim s = takeF (o, s9) := by
    unfold takeK
    rw [← hg0, e9]
  have E9 := hide e9; have K9 := hide hk9
  clear hg0 e9 hk9
  go_wp2_with fail
  go_loopw [6, 7] (fun sl si wr => ∃ (k : Nat) (last : List UInt8) (m : KM) (q : Int × List UInt8), k ≤ n ∧ si = .int .u64 k ∧ sl = .string (strOf last) ∧ StIs wr (w.heap.size + 1) w.heap.size m ∧ RdS wr T R (lim : Int) q ∧ takeL lim (n - k) q m last = (o, s9) ∧ m.length ≤ 1000001 ∧ q.2.length ≤ 1000000 ∧ (q.1 = 0 → m.length + q.2.length ≤ 1000000) ∧ Upd [R] w wr) (fun _ si _ => n - (RowKit.intOf si).toNat)
  case atStart => exact ⟨0, [], [], s1, by omega, rfl, rfl, S2.out, R2.out, E9.out, by simp, by omega, fun _ => by simp; omega, U2.out⟩
  case round =>
    obtain ⟨k, last, m, ⟨er, rest⟩, hk, rfl, rfl, hs, hr, hg, hmk, hl, hl0, hu⟩ := hrel
    have HS := hide hs; have HR := hide hr; have HG := hide hg; have HU := hide hu
    clear hs hr hg hu S2 R2 U2
    simp only at hl hl0
    by_cases hlt : k < n
    · have q1 : decide ((k : Int) < (n : Int)) = true := by simp; omega
      have q1' : decide (k < n) = true := by simp; omega
      go_wp2_with fail
      refine (err_s _ HR.out).mono ?_
      rintro e w3 ⟨rfl, rfl⟩
      simp only
      by_cases he : er = 0
      · subst he
        have q2 : ((0 : Int) == 0) = true := rfl
        have hlm : List.length m + rest.length ≤ 1000000 := hl0 (by rfl)
        clear hl0
        obtain ⟨k1, t1, h1⟩ : ∃ k1 t1, textM lim (0, rest) = (k1, t1) := ⟨_, _, rfl⟩
        obtain ⟨v1, ⟨e2, t2⟩, h2⟩ : ∃ v1 t2, textM lim t1 = (v1, t2) := ⟨_, _, rfl⟩
        have z1 := text_len (lim := lim) (0, rest); have z2 := text_len (lim := lim) t1
        have y1 := text_le (lim := lim) (0, rest); have y2 := text_le (lim := lim) t1
        rw [h1] at z1 y1; rw [h2] at z2 y2
        simp only at z1 z2 y1 y2
        obtain ⟨j, hj⟩ : ∃ j, n - k = j + 1 := ⟨n - k - 1, by omega⟩
        have hg := HG.out
        rw [hj, takeL, if_neg (by simp), h1] at hg
        simp only [h2] at hg
        have HG1 := hide hg; have H1 := hide h1; have H2 := hide h2
        clear hg h1 h2 HG
        go_wp2_with fail
        refine (text_s _ HR.out hlim (by simp only; omega)).mono ?_
        rw [H1.out]
        rintro e w4 ⟨rfl, hr4, hu4⟩
        have HS4 := hide (HS.out.upd hu4 (by simp; omega) (by simp; omega)); have R4 := hide hr4; have U4 := hide (HU.out.trans hu4)
        clear hr4 hu4 HS HR HU
        simp only
        go_wp2_with fail
        refine (text_s _ R4.out hlim (by omega)).mono ?_
        rw [H2.out]
        rintro e w5 ⟨rfl, hr5, hu5⟩
        have HS5 := hide (HS4.out.upd hu5 (by simp; omega) (by simp; omega)); have R5 := hide hr5; have U5 := hide (U4.out.trans hu5)
        clear hr5 hu5 HS4 R4 U4
        simp only
        go_wp2_with fail
        refine (err_s _ R5.out).mono ?_
        rintro e w6 ⟨rfl, rfl⟩
        simp only
        have f1 : (strOf k1).toList = k1 := strOf_toL k1
        have f2 : (strOf last).toList = last := strOf_toL last
        have f3 : (strOf k1).size = k1.length := strOf_size k1
        have f4 : (strOf v1).size = v1.length := strOf_size v1
        have c0 : w5.cell? ⟨w.heap.size + 1, 0, none⟩ = some (.map (some w.heap.size)) := blk_cell HS5.out.blk rfl
        have cf : w5.frozen? ⟨w.heap.size + 1, 0, none⟩ = false := blk_free HS5.out.blk
        obtain ⟨v0, st, wa, w7, hen, hst, hm, hu7⟩ := kv_entry HS5.out.map (k := k1) (v := v1) (by unfold maxLen; omega) (by unfold maxLen; omega) (by unfold maxLen; omega)
        have ST7 := hide (HS5.out.turn hu7 hm); have V7 := hide hu7
        clear hm hu7
        by_cases he2 : e2 = 0
        · subst he2
          by_cases hc : ¬ last < k1 ∨ 32 < k1.length ∨ 64 < v1.length
          · have hg := HG1.out
            rw [if_pos ⟨rfl, hc⟩] at hg
            have HG2 := hide hg
            have HC := hide hc
            clear hg HG1 hc
            by_cases hlk : last < k1
            · have f6 : Op.bytesLess k1 last = false := by rw [less_eq]; simp; exact fun h => lex_irrefl _ (lex_trans h hlk)
              have f7 : (k1 == last) = false := by simp; rintro rfl; exact lex_irrefl _ hlk
              by_cases h32 : 32 < k1.length
              · have f8 : decide (32 < ((k1.length : Nat) : Int)) = true := by simp; omega
                go_wp2_with fail
                have hq := K9.out
                have hg2 := HG2.out
                simp only [Prod.mk.injEq] at hg2
                rw [← hg2.1, ← hg2.2] at hq
                have hq2 : takeK lim s = (none, 11, (0, t2)) := hq
                go_ret2
                rw [hq2]
                exact ⟨⟨_, rfl, rfl⟩, R5.out, U5.out⟩
              · have f8 : decide (32 < ((k1.length : Nat) : Int)) = false := by simp; omega
                have f5 : decide (64 < ((v1.length : Nat) : Int)) = true := by have := (HC.out.resolve_left (fun h => h hlk)).resolve_left h32; simp; omega
                go_wp2_with fail
                have hq := K9.out
                have hg2 := HG2.out
                simp only [Prod.mk.injEq] at hg2
                rw [← hg2.1, ← hg2.2] at hq
                have hq2 : takeK lim s = (none, 11, (0, t2)) := hq
                go_ret2
                rw [hq2]
                exact ⟨⟨_, rfl, rfl⟩, R5.out, U5.out⟩
            · by_cases hke : k1 = last
              · have f6 : Op.bytesLess k1 last = false := by rw [less_eq, hke]; simp
                have f7 : (k1 == last) = true := by simpa using hke
                have HKE := hide hke
                clear hke
                go_wp2_with fail
                have hq := K9.out
                have hg2 := HG2.out
                simp only [Prod.mk.injEq] at hg2
                rw [← hg2.1, ← hg2.2] at hq
                have hq2 : takeK lim s = (none, 11, (0, t2)) := hq
                go_ret2
                rw [hq2]
                exact ⟨⟨_, rfl, rfl⟩, R5.out, U5.out⟩
              · have f6 : Op.bytesLess k1 last = true := by rw [less_eq]; simpa using (lex_total hke).resolve_right hlk
                clear hke
                go_wp2_with fail
                have hq := K9.out
                have hg2 := HG2.out
                simp only [Prod.mk.injEq] at hg2
                rw [← hg2.1, ← hg2.2] at hq
                have hq2 : takeK lim s = (none, 11, (0, t2)) := hq
                go_ret2
                rw [hq2]
                exact ⟨⟨_, rfl, rfl⟩, R5.out, U5.out⟩
          · have hg := HG1.out
            rw [if_neg (fun h => hc h.2)] at hg
            have hlk : last < k1 := Classical.byContradiction fun h => hc (Or.inl h)
            have hk32 : k1.length ≤ 32 := by omega
            have f5 : decide (64 < ((v1.length : Nat) : Int)) = false := by simp; omega
            have f6 : Op.bytesLess k1 last = false := by rw [less_eq]; simp; exact fun h => lex_irrefl _ (lex_trans h hlk)
            have f7 : (k1 == last) = false := by simp; rintro rfl; exact lex_irrefl _ hlk
            have f8 : decide (32 < ((k1.length : Nat) : Int)) = false := by simp; omega
            have HG2 := hide hg
            clear hg HG1 hc hlk
            go_wp2_with fail
            have V5 := hide (U5.out.trans_new V7.out (fun k hk => .inr (by simp at hk; omega)))
            have hlp := len_put_le (K := strK) (l := m) (k := k1) (v := v1)
            have hsz : t2.length < rest.length := by
              obtain ⟨x1, x2, x3⟩ := text_ok H2.out
              obtain ⟨d1, d2⟩ := t1
              obtain rfl : d1 = 0 := x1
              obtain ⟨x4, x5, x6⟩ := text_ok H1.out
              have x7 := uv_len_pos k1.length
              simp only at x2 x5
              rw [x5, x2]
              simp [txB]
              omega
            exact ⟨⟨k + 1, k1, mput strK m k1 v1, (0, t2), by omega, by simp, rfl, ST7.out, R5.out.updS V7.out (by simp; omega) (fun x hx hTx => by simp at hx; have := hT x hTx; omega), by rw [show n - (k + 1) = j by omega]; exact HG2.out, by omega, by simp only; omega, fun _ => by simp only; omega, V5.out⟩, by simp [RowKit.intOf]; omega⟩
        · have q3 : (e2 == 0) = false := by simpa using he2
          have hg := HG1.out
          rw [if_neg (fun h => he2 h.1)] at hg
          have HG2 := hide hg
          clear hg HG1
          go_wp2_with fail
          have V5 := hide (U5.out.trans_new V7.out (fun k hk => .inr (by simp at hk; omega)))
          have hlp := len_put_le (K := strK) (l := m) (k := k1) (v := v1)
          exact ⟨⟨k + 1, k1, mput strK m k1 v1, (e2, t2), by omega, by simp, rfl, ST7.out, R5.out.updS V7.out (by simp; omega) (fun x hx hTx => by simp at hx; have := hT x hTx; omega), by rw [show n - (k + 1) = j by omega]; exact HG2.out, by omega, by simp only; omega, fun h => absurd h he2, V5.out⟩, by simp [RowKit.intOf]; omega⟩
      · have q2 : (er == 0) = false := by simpa using he
        have hg := HG.out
        rw [takeL_err _ _ _ _ he] at hg
        have HG1 := hide hg
        clear hg HG
        go_wp2_with fail
        refine (err_s _ HR.out).mono ?_
        rintro e w4 ⟨rfl, rfl⟩
        simp only
        have q4 : (er != 0) = true := by simpa using he
        go_wp2_with fail
        have hq := K9.out
        have hg2 := HG1.out
        simp only [Prod.mk.injEq] at hg2
        rw [← hg2.1, ← hg2.2] at hq
        have hq2 : takeK lim s = (none, er, (er, rest)) := by rw [hq, takeF, if_pos he]
        go_ret2
        rw [hq2]
        exact ⟨⟨_, rfl, rfl⟩, HR.out, HU.out⟩
    · have q1 : decide ((k : Int) < (n : Int)) = false := by simp; omega
      have q1' : decide (k < n) = false := by simp; omega
      have hg := HG.out
      rw [show n - k = 0 by omega] at hg
      have HG1 := hide hg
      clear hg HG
      go_wp2_with fail
      refine (err_s _ HR.out).mono ?_
      rintro e w4 ⟨rfl, rfl⟩
      simp only
      have hq := K9.out
      have hg2 := HG1.out
      simp only [takeL, Prod.mk.injEq] at hg2
      rw [← hg2.1, ← hg2.2] at hq
      by_cases he : er = 0
      · subst he
        have q4 : ((0 : Int) != 0) = false := rfl
        have hq2 : takeK lim s = (some m, 0, (0, rest)) := hq
        have HQ := hide hq2
        clear hq hq2 hg2
        go_wp2_with fail
        go_ret2
        rw [HQ.out]
        exact ⟨⟨_, rfl, _, _, rfl, HS.out, by omega, Nat.le_refl _⟩, HR.out, HU.out⟩
      · have q4 : (er != 0) = true := by simpa using he
        have hq2 : takeK lim s = (none, er, (er, rest)) := by rw [hq, takeF, if_pos he]
        have HQ := hide hq2
        clear hq hq2 hg2 he
        go_wp2_with fail
        go_ret2
        rw [HQ.out]
        exact ⟨⟨_, rfl, rfl⟩, HR.out, HU.out⟩
end Go.Proofs.YtcjflnnjieolfaaDoor.Kv
namespace Go.Proofs.YtcjflnnjieolfaaDoor
set_option linter.unusedVariables false
open Go.RowKit
section
variable {P : Program}
/-- What an iterator's function promises whoever ranges over it: it is called with yield; the values come in some order, each as Pre allows, and at the end as Sp says; it needs Dp of the world at the call, and that a round keeps the blocks of K; it changes the blocks of S alone, and what is new. -/
def IterP (P : Program) (gf : FuncId) (first cap : Array Value) {α : Type} (enc : α → Array Value) (Sp : List α → Prop) (Pre : List α → α → Prop) (K S : List Nat) (Dp : World → Prop) : Prop :=
  ∀ (n l : Nat) (J Jx : List α → World → Prop) (W : World), Dp W →
    (∀ pre x W1, J pre W1 → Pre pre x → YieldAt Fence.wide n P l (enc x) W1 fun e W' =>
      (e = .returned (.bool true) ∧ J (pre ++ [x]) W' ∧ Keeps K W1 W' ∧ KeepsWalks W1 W') ∨ (e = .returned (.bool false) ∧ Jx (pre ++ [x]) W')) →
    (∀ pre W1 W2, J pre W1 → Upd S W1 W2 → J pre W2) →
    (∀ pre r o W1 W2, J pre W1 → W.heap.size ≤ r → W1.heap[r]? = some o → o.isWalk = true → Upd [r] W1 W2 → J pre W2) →
    (∀ pre W1 W2, Jx pre W1 → Upd S W1 W2 → Jx pre W2) →
    J [] W →
    CallsIn Fence.wide n P gf (first ++ #[.func (.yield l) #[] #[]] ++ cap) W fun e W' => (∃ v, e = .returned v) ∧ ((∃ xs, Sp xs ∧ J xs W') ∨ ∃ pre, Jx pre W')

/-- How a round's body may be left. -/
def bodyEndW {α : Type} (K : List Nat) (I : List α → World → Prop) (Ix : Code → List α → World → Prop) (xs : List α) (W : World) : Exit → Act → World → Prop
  | .normal, _, W' => Keeps K W W' ∧ KeepsWalks W W' ∧ I xs W'
  | .ret, _, W' => Keeps K W W' ∧ Ix .ret xs W'
  | .exit id, _, W' => Keeps K W W' ∧ Ix (.exit id) xs W'
  | .goto t, _, W' => Keeps K W W' ∧ Ix (.goto t) xs W'
  | .panic _, _, _ => False
  | .outgrown, _, _ => False

theorem wpIn_rangeP {α : Type} {n : Nat} {g : Operand} {ps : Array Tmp} {assign body : Code} {Q : Exit → Act → World → Prop} {a : Act} {w : World}
    {gf : Nat} {first cap : Array Value} (hg : a.eval g = .func (.func gf) first cap) (eg : ∀ args w, (callFunc gf args).run P w = .ok (.enter gf args) w)
    {enc : α → Array Value} {Sp : List α → Prop} {Pre : List α → α → Prop} {K S : List Nat} {Dp : World → Prop} (hit : IterP P gf first cap enc Sp Pre K S Dp) (hps : ∀ x, (enc x).size = ps.size)
    (hK : ∀ k, k ∈ K → k < w.heap.size) (hS : ∀ k, k ∈ S → k < w.heap.size)
    (hD : ∀ W, Upd [] w W → Dp W)
    (I : List α → World → Prop) (Ix : Code → List α → World → Prop)
    (hI : ∀ pre W1 W2, I pre W1 → Upd ((w.heap.size + 1) :: S) W1 W2 → I pre W2)
    (hIw : ∀ pre r o W1 W2, I pre W1 → w.heap.size ≤ r → W1.heap[r]? = some o → o.isWalk = true → Upd [r] W1 W2 → I pre W2)
    (hIx : ∀ c pre W1 W2, Ix c pre W1 → Upd ((w.heap.size + 1) :: S) W1 W2 → Ix c pre W2)
    (h0 : ∀ W, Upd [] w W → w.heap.size + 2 ≤ W.heap.size → I [] W) 
    (hround : ∀ (pre : List α) (x : α) (W : World), Pre pre x → I pre W → w.heap.size + 2 ≤ W.heap.size →
      assign.wpIn (Fence.wide.inRound (w.heap.size + 1)) (n - 1) P (Exit.then (fun a₁ W1 => Keeps (w.heap.size :: (w.heap.size + 1) :: K) W W1 ∧ KeepsWalks W W1 ∧
          ∀ W2, Upd [w.heap.size + 1] W1 W2 → (I pre W1 → I pre W2) → body.wpIn (Fence.wide.inRound (w.heap.size + 1)) (n - 1) P (bodyEndW (w.heap.size :: (w.heap.size + 1) :: K) I Ix (pre ++ [x]) W2) a₁ W2) (fun _ _ _ => False))
        { tmps := (ps.zip (enc x)).foldl (fun t (p, v) => t.setIfInBounds p v) a.tmps, defers := [] } W)
    (hdone : ∀ (xs : List α) (W : World), Sp xs → I xs W → W.heap[w.heap.size]? = some (.deferred (some [])) → Q .normal { a with defers := { target := .collected w.heap.size, args := #[] } :: a.defers } W)
    (hstop : ∀ (c : Code) (pre : List α) (W : World), Ix c pre W → W.heap[w.heap.size]? = some (.deferred (some [])) → c.wpIn Fence.wide n P Q { a with defers := { target := .collected w.heap.size, args := #[] } :: a.defers } W) :
    (Code.rangeFunc g ps assign body).wpIn Fence.wide n P Q a w := by
  refine wpIn_rangeFunc ?_
  intro fn hfn
  obtain ⟨rec, hrec⟩ : ∃ rec : LoopState → Option Code → Loop, rec = fun st pe => { state := st, pending := pe, fn, tmps := a.tmps, params := ps, assign, body, defers := w.heap.size } := ⟨_, rfl⟩
  obtain ⟨W1, hW1⟩ : ∃ W1, (w.alloc (.deferred (some []))).alloc (.loop (rec .ready none)) = W1 := ⟨_, rfl⟩
  have hL1 : W1.heap[w.heap.size + 1]? = some (.loop (rec .ready none)) := by
    rw [← hW1]; have := World.alloc_heap_new (w.alloc (.deferred (some []))) (.loop (rec .ready none)); rwa [World.size_alloc] at this
  have hK1 : W1.heap[w.heap.size]? = some (.deferred (some [])) := by
    rw [← hW1]; exact (Below.heap_alloc _ _ _ (by simp)).trans (World.alloc_heap_new w _)
  have hU1 : Upd [] w W1 := by rw [← hW1]; exact ((Upd.refl [] w).alloc _).alloc _
  have hsz1 : w.heap.size + 2 ≤ W1.heap.size := by rw [← hW1]; simp
  refine ⟨w.heap.size + 1, [{ target := .collected w.heap.size, args := #[] }], W1, { target := .fn (.func gf) cap, args := first ++ #[.func (.yield (w.heap.size + 1)) #[] #[]] }, W1, gf,
    first ++ #[.func (.yield (w.heap.size + 1)) #[] #[]] ++ cap, W1, ?_, ?_, ?_, ?_, fun h => by simp [Fence.wide] at h, ?_⟩
  · rw [← hW1, hrec]; exact run_enterLoop_outer _ _ _ _ _
  · simp only [resolve, hg]
    simp [go_sem, Deferred.ofValue]
  · intro f' _; exact trivial
  · simp [invoke, go_sem, eg]
  · have hnl : ∀ k, k ∈ K → k ≠ w.heap.size + 1 ∧ k ≠ w.heap.size := fun k hk => by have := hK k hk; omega
    have hnS : ∀ k, k ∈ S → k ≠ w.heap.size + 1 ∧ k ≠ w.heap.size := fun k hk => by have := hS k hk; omega
    refine (hit (n - 1) (w.heap.size + 1)
      (fun pre W => I pre W ∧ W.heap[w.heap.size + 1]? = some (.loop (rec .ready none)) ∧ W.heap[w.heap.size]? = some (.deferred (some [])) ∧ w.heap.size + 2 ≤ W.heap.size)
      (fun pre W => ∃ c, Ix c pre W ∧ W.heap[w.heap.size + 1]? = some (.loop (rec .done (some c))) ∧ W.heap[w.heap.size]? = some (.deferred (some [])))
      W1 (hD W1 hU1) ?_ ?_ ?_ ?_ ⟨h0 W1 hU1 hsz1, hL1, hK1, hsz1⟩).mono ?_
    · rintro pre x W ⟨hi, hl, hk, hz⟩ hpre
      have hlt : w.heap.size + 1 < W.heap.size := (Array.getElem?_eq_some_iff.1 hl).1
      have hy := run_yield (P := P) (args := enc x) hl (by rw [hrec]; exact hps x)
      rw [hrec] at hy
      refine ⟨fn, _, assign, body, hy, roundIn_of_wpIn trivial (wpIn_mono (hround pre x W hpre hi hz) ?_)⟩
      clear hy
      rintro e1 a1 W1 he1
      cases e1 with
      | normal => ?_
      | exit id => exact he1.elim
      | goto t => exact he1.elim
      | ret => exact he1.elim
      | panic ch => exact he1.elim
      | outgrown => exact he1.elim
      obtain ⟨hk1, hw1, hb1⟩ := he1
      have hl1 := hk1.get hl (by simp)
      have hd1 := hk1.get hk (by simp)
      have hlt1 : w.heap.size + 1 < W1.heap.size := (Array.getElem?_eq_some_iff.1 hl1).1
      have hKW : Keeps K W W1 := ⟨hk1.1, fun k hk => hk1.2 k (by simp [hk])⟩
      refine ⟨_, run_beginRound hl1 (by rw [hrec]), ?_⟩
      have hl2 : (W1.putObj (w.heap.size + 1) (.loop { rec .ready none with state := .busy })).heap[w.heap.size + 1]? = some (.loop { rec .ready none with state := .busy }) := World.putObj_heap_same hlt1
      have hk2 : (W1.putObj (w.heap.size + 1) (.loop { rec .ready none with state := .busy })).heap[w.heap.size]? = some (.deferred (some [])) := (World.putObj_heap_other (by omega)).trans hd1
      have hkp2 : Keeps K W (W1.putObj (w.heap.size + 1) (.loop { rec .ready none with state := .busy })) :=
        hKW.trans ⟨by simp, fun k hk => World.putObj_heap_other (hnl k hk).1⟩
      refine wpIn_mono (hb1 _ ((Upd.refl _ _).putObj (.inl (by simp)) _) (fun hi1 => hI _ _ _ hi1 ((Upd.refl _ _).putObj (.inl (by simp)) _))) ?_
      have fin : ∀ (jump : Option Code) (W3 : World), Keeps (w.heap.size :: (w.heap.size + 1) :: K) (W1.putObj (w.heap.size + 1) (.loop { rec .ready none with state := .busy })) W3 →
          (Instr.endRound (w.heap.size + 1) jump).run P W3 = .ok (.bool jump.isNone) (W3.putObj (w.heap.size + 1) (.loop (rec (if jump.isNone then .ready else .done) jump))) ∧
          (W3.putObj (w.heap.size + 1) (.loop (rec (if jump.isNone then .ready else .done) jump))).heap[w.heap.size + 1]? = some (.loop (rec (if jump.isNone then .ready else .done) jump)) ∧
          (W3.putObj (w.heap.size + 1) (.loop (rec (if jump.isNone then .ready else .done) jump))).heap[w.heap.size]? = some (.deferred (some [])) ∧
          w.heap.size + 2 ≤ (W3.putObj (w.heap.size + 1) (.loop (rec (if jump.isNone then .ready else .done) jump))).heap.size ∧
          Keeps K W (W3.putObj (w.heap.size + 1) (.loop (rec (if jump.isNone then .ready else .done) jump))) := fun jump W3 hk3 => by
        have hl3 := hk3.get hl2 (by simp)
        have hk3' := hk3.get hk2 (by simp)
        have hz3 := hk3.1
        have := run_endRound (P := P) jump hl3
        rw [hrec] at this ⊢
        refine ⟨this, World.putObj_heap_same (Array.getElem?_eq_some_iff.1 hl3).1, (World.putObj_heap_other (by omega)).trans hk3', by have := hk1.1; simp at hz3 ⊢; omega, ?_⟩
        refine ⟨by have := hk1.1; simp at hz3 ⊢; omega, fun k hk => ?_⟩
        rw [World.putObj_heap_other (hnl k hk).1, hk3.2 k (by simp [hk])]
        exact hkp2.2 k hk
      rintro e a3 W3 hp
      cases e with
      | normal =>
        obtain ⟨hk3, hw3, hi3⟩ := hp
        obtain ⟨hr, hl4, hk4, hz4, hkp⟩ := fin none W3 hk3
        have hww : KeepsWalks W (W3.putObj (w.heap.size + 1) (.loop (rec (if (none : Option Code).isNone then .ready else .done) none))) :=
          ((hw1.trans (KeepsWalks.putObj _ hl1 rfl)).trans hw3).trans (KeepsWalks.putObj _ (hk3.get hl2 (by simp)) rfl)
        exact ⟨_, _, hr, .inl ⟨rfl, ⟨hI _ _ _ hi3 ((Upd.refl _ _).putObj (.inl (by simp)) _), hl4, hk4, hz4⟩, hkp, hww⟩⟩
      | ret =>
        obtain ⟨hk3, hi3⟩ := hp
        obtain ⟨hr, hl4, hk4, hz4, hkp⟩ := fin (some .ret) W3 hk3
        exact ⟨_, _, hr, .inr ⟨rfl, .ret, hIx _ _ _ _ hi3 ((Upd.refl _ _).putObj (.inl (by simp)) _), hl4, hk4⟩⟩
      | exit id =>
        obtain ⟨hk3, hi3⟩ := hp
        obtain ⟨hr, hl4, hk4, hz4, hkp⟩ := fin (some (.exit id)) W3 hk3
        exact ⟨_, _, hr, .inr ⟨rfl, .exit id, hIx _ _ _ _ hi3 ((Upd.refl _ _).putObj (.inl (by simp)) _), hl4, hk4⟩⟩
      | goto t =>
        obtain ⟨hk3, hi3⟩ := hp
        obtain ⟨hr, hl4, hk4, hz4, hkp⟩ := fin (some (.goto t)) W3 hk3
        exact ⟨_, _, hr, .inr ⟨rfl, .goto t, hIx _ _ _ _ hi3 ((Upd.refl _ _).putObj (.inl (by simp)) _), hl4, hk4⟩⟩
      | panic ch => exact hp.elim
      | outgrown => exact hp.elim
    · rintro pre W2 W3 ⟨hi, hl, hk, hz⟩ hu
      refine ⟨hI _ _ _ hi (hu.mono fun k hk => by simp [hk]), hu.get hl (fun h => (hnS _ h).1 rfl), hu.get hk (fun h => (hnS _ h).2 rfl), Nat.le_trans hz hu.size⟩
    · rintro pre r o W2 W3 ⟨hi, hl, hk, hz⟩ hge hr ho hu
      have n1 : w.heap.size + 1 ≠ r := by rintro rfl; rw [hl] at hr; cases hr; cases ho
      have n2 : w.heap.size ≠ r := by rintro rfl; rw [hk] at hr; cases hr; cases ho
      exact ⟨hIw _ _ _ _ _ hi (by have := hU1.size; omega) hr ho hu, hu.get hl (by simpa using n1), hu.get hk (by simpa using n2), Nat.le_trans hz hu.size⟩
    · rintro pre W2 W3 ⟨c, hi, hl, hk⟩ hu
      exact ⟨c, hIx _ _ _ _ hi (hu.mono fun k hk => by simp [hk]), hu.get hl (fun h => (hnS _ h).1 rfl), hu.get hk (fun h => (hnS _ h).2 rfl)⟩
    · rintro e W2 ⟨⟨v, rfl⟩, (⟨xs, hsp, hi, hl, hk, hz⟩ | ⟨pre, c, hi, hl, hk⟩)⟩
      · exact ⟨none, _, by have := run_endLoop (P := P) hl (by rw [hrec]; simp); rw [hrec] at this; exact this, hdone xs _ hsp (hI _ _ _ hi ((Upd.refl _ _).putObj (.inl (by simp)) _)) ((World.putObj_heap_other (by omega)).trans hk)⟩
      · exact ⟨some c, _, by have := run_endLoop (P := P) hl (by rw [hrec]; simp); rw [hrec] at this; exact this, hstop c pre _ (hIx _ _ _ _ hi ((Upd.refl _ _).putObj (.inl (by simp)) _)) ((World.putObj_heap_other (by omega)).trans hk)⟩

/-- The same law, said of a plain walk. -/
theorem wp_rangeP {α : Type} {g : Operand} {ps : Array Tmp} {assign body : Code} {Q : Exit → Act → World → Prop} {a : Act} {w : World}
    {gf : Nat} {first cap : Array Value} (hg : a.eval g = .func (.func gf) first cap) (eg : ∀ args w, (callFunc gf args).run P w = .ok (.enter gf args) w)
    {enc : α → Array Value} {Sp : List α → Prop} {Pre : List α → α → Prop} {K S : List Nat} {Dp : World → Prop} (hit : IterP P gf first cap enc Sp Pre K S Dp) (hps : ∀ x, (enc x).size = ps.size)
    (hK : ∀ k, k ∈ K → k < w.heap.size) (hS : ∀ k, k ∈ S → k < w.heap.size)
    (hD : ∀ W, Upd [] w W → Dp W)
    (I : List α → World → Prop) (Ix : Code → List α → World → Prop)
    (hI : ∀ pre W1 W2, I pre W1 → Upd ((w.heap.size + 1) :: S) W1 W2 → I pre W2)
    (hIw : ∀ pre r o W1 W2, I pre W1 → w.heap.size ≤ r → W1.heap[r]? = some o → o.isWalk = true → Upd [r] W1 W2 → I pre W2)
    (hIx : ∀ c pre W1 W2, Ix c pre W1 → Upd ((w.heap.size + 1) :: S) W1 W2 → Ix c pre W2)
    (h0 : ∀ W, Upd [] w W → w.heap.size + 2 ≤ W.heap.size → I [] W) 
    (hround : ∀ (pre : List α) (x : α) (W : World), Pre pre x → I pre W → w.heap.size + 2 ≤ W.heap.size →
      assign.wpIn (Fence.wide.inRound (w.heap.size + 1)) 0 P (Exit.then (fun a₁ W1 => Keeps (w.heap.size :: (w.heap.size + 1) :: K) W W1 ∧ KeepsWalks W W1 ∧
          ∀ W2, Upd [w.heap.size + 1] W1 W2 → (I pre W1 → I pre W2) → body.wpIn (Fence.wide.inRound (w.heap.size + 1)) 0 P (bodyEndW (w.heap.size :: (w.heap.size + 1) :: K) I Ix (pre ++ [x]) W2) a₁ W2) (fun _ _ _ => False))
        { tmps := (ps.zip (enc x)).foldl (fun t (p, v) => t.setIfInBounds p v) a.tmps, defers := [] } W)
    (hdone : ∀ (xs : List α) (W : World), Sp xs → I xs W → W.heap[w.heap.size]? = some (.deferred (some [])) → Q .normal { a with defers := { target := .collected w.heap.size, args := #[] } :: a.defers } W)
    (hstop : ∀ (c : Code) (pre : List α) (W : World), Ix c pre W → W.heap[w.heap.size]? = some (.deferred (some [])) → c.wp P Q { a with defers := { target := .collected w.heap.size, args := #[] } :: a.defers } W) :
    (Code.rangeFunc g ps assign body).wp P Q a w :=
  (wpIn_wide (n := 0)).1 (wpIn_rangeP hg eg hit hps hK hS hD I Ix hI hIw hIx h0 hround hdone (fun c pre W h1 h2 => wpIn_wide.2 (hstop c pre W h1 h2)))

end
end Go.Proofs.YtcjflnnjieolfaaDoor
namespace Go.Proofs.YtcjflnnjieolfaaDoor.Kv
set_option linter.unusedSimpArgs false
set_option linter.unusedVariables false
set_option linter.unnecessarySimpa false
open Go.RowKit Go.Lib Go.Proofs.YtcjflnnjieolfaaDoor.Crc Go.Proofs.YtcjflnnjieolfaaDoor.Cm

def KeysOf (m : KM) (ss : List (List UInt8)) : Prop := ss.Nodup ∧ ∀ k, k ∈ ss ↔ ∃ v, mfind m k = some v
set_option maxHeartbeats 2000000 in
theorem keys_iter {p g : Nat} {m : KM} (hok : ∀ q ∈ m, q.1.length ≤ maxLen) :
    IterP Tryd.prog 89 #[] #[.pointer (some ⟨p, 0, none⟩)] (fun k : List UInt8 => #[.string (strOf k)]) (KeysOf m) (fun pre x => x ∉ pre ∧ ∃ v, mfind m x = some v) [] []
      (fun W => W.cell? ⟨p, 0, none⟩ = some (.map (some g)) ∧ kvK.is W g m) := by
  intro nn l J Jx W hD hY hJ hJw hJx hJ0
  obtain ⟨hc, hs⟩ := hD
  refine callsIn_wide.2 ?_
  go_enter Tryd.func89, Tryd.ntmps89
  have HY := hide hY
  have HJ := hide hJ
  have HJw := hide hJw
  have HJx := hide hJx
  have HJ0 := hide hJ0
  have HOK := hide hok
  have hls := MapKind.is_lt hs
  clear hY hJ hJx hJ0 hJw hok
  go_wp2_with (first
    | (at_range; refine wpList_range_map (M := kvK) _ rfl _ rfl rfl hs ?_; intro w0 hrg0 hg0 hs0)
    | go_in)
  go_loopw [3] (fun _ wr => ∃ (left : Lit → Bool) (cnt : Nat) (ss : List (List UInt8)), kvK.rng wr g W.heap.size m left cnt ∧ ss.Nodup ∧ (∀ k, k ∈ ss ↔ (∃ v, mfind m k = some v) ∧ left (strK.lit k) = false) ∧ J ss wr) (fun _ wr => wr.rangeLeft g W.heap.size)
  case atStart =>
    refine ⟨_, _, [], hrg0, by simp, fun k => ?_, HJ.out _ _ _ HJ0.out hg0⟩
    show _ ↔ _ ∧ Maps.has (toD strK kvK.dat m) (strK.lit k) = false
    rw [toD_has]
    cases mfind m k <;> simp
  case round =>
    obtain ⟨left, cnt, ss, hrg, hnd, hmem, hj⟩ := hrel
    have ND := hide hnd; have MEM := hide hmem; have HJ2 := hide hj
    clear hnd hmem hj
    go_wp2_with (first
      | (at_next; refine wpList_next_map (M := kvK) _ rfl _ rfl rfl hrg (fun p hp => HOK.out p hp) ?_ ?_)
      | go_in)
    · intro hc0 hl0
      go_wp2
      go_end0
      exact ⟨⟨_, rfl⟩, .inl ⟨ss, ⟨ND.out, fun k => (MEM.out k).trans ⟨And.left, fun h => ⟨h, hl0 _⟩⟩⟩, HJ2.out⟩⟩
    · intro k v w1 cnt1 hlk hv hrg1 hlt hu1 hs1 hen
      obtain ⟨o, ho, hwo⟩ := hrg.iter_walk
      have hj1 := HJw.out _ _ _ _ _ HJ2.out (Nat.le_refl _) ho hwo hu1
      have hnm : k ∉ ss := fun h => by
        have h1 := ((MEM.out k).1 h).2
        rw [show strK.lit k = kvK.K.lit k from rfl, hlk] at h1
        cases h1
      have hen' : (Instr.entry (.pointer (some ⟨W.heap.size, 0, none⟩))).run Tryd.prog w1 = .ok (.tuple #[.string (strOf k), .string (strOf v)]) w1 := hen
      obtain ⟨fn, tmps, assign, body, hy, hR⟩ := HY.out ss k w1 hj1 ⟨hnm, v, hv⟩
      replace hy : (Instr.yield l #[.string (strOf k)]).run Tryd.prog w1 = .ok (.round l fn tmps assign body) w1 := hy
      have HRR := hide hR; have RG1 := hide hrg1; have HJ1 := hide hj1
      clear hR hrg1 hj1 hen
      show wpList _ _ _ _ { tmps := #[_, _, _, _, _, _, .tuple #[.bool true, .string (strOf k), .string (strOf v)], _, _, _, _, _, _, _], defers := _ } _
      go_upto_block 1 with fail
      refine (wpIn_wide (n := nn + 1)).1 ?_
      gi_wp2
      refine HRR.out.mono ?_
      rintro e W' (⟨rfl, hj3, hk3, hw3⟩ | ⟨rfl, hjx3⟩)
      · have hrg3 : kvK.rng W' g W.heap.size m (fun z => left z && !z.sameKey (strK.lit k)) cnt1 := World.ranges.of_walks RG1.out hw3
        have HJ3 := hide hj3; have RG3 := hide hrg3
        have hcnt := MapKind.rng_cnt hrg
        have hcnt3 := MapKind.rng_cnt hrg3
        clear hy HY hj3 hk3 hw3 hrg3 hrg
        gi_wp2
        go_wp2_with fail
        go_roundw
        case rel =>
          refine ⟨_, cnt1, ss ++ [k], RG3.out, ?_, fun j => ?_, HJ3.out⟩
          · have := ND.out
            rw [List.nodup_append]
            exact ⟨this, by simp, by simp; rintro a ha rfl; exact hnm ha⟩
          · rw [List.mem_append, MEM.out j, List.mem_singleton]
            simp only [Kys.same, Bool.and_eq_false_iff, Bool.not_eq_false', decide_eq_true_eq]
            constructor
            · rintro (⟨h1, h2⟩ | rfl)
              · exact ⟨h1, .inl h2⟩
              · exact ⟨⟨v, hv⟩, .inr rfl⟩
            · rintro ⟨h1, h2 | h2⟩
              · exact .inl ⟨h1, h2⟩
              · exact .inr h2
        case measure => rw [hcnt, hcnt3]; exact hlt
      · clear hy HY hrg
        have HJ3 := hide hjx3
        clear hjx3
        gi_wp2
        go_wp2_with fail
        refine bodyPost_ret (results_none rfl _ _ _) rfl ?_
        exact ⟨⟨_, rfl⟩, .inr ⟨_, HJ3.out⟩⟩
theorem mkeys_any {g : Nat} (w : World) :
    Calls Tryd.prog 66 #[.map (some g)] w fun e w' => e = .returned (.func (.func 89) #[] #[.pointer (some ⟨w.heap.size, 0, none⟩)]) ∧
      w'.cell? ⟨w.heap.size, 0, none⟩ = some (.map (some g)) ∧ w.heap.size < w'.heap.size ∧ Upd [] w w' := by
  go_enter Tryd.func66, Tryd.ntmps66
  go_wp2_with fail
  go_ret
  exact ⟨rfl, blk_cell (blk_new _ _) rfl, by simp, (Upd.refl _ _).alloc _⟩
end Go.Proofs.YtcjflnnjieolfaaDoor.Kv
namespace Go.Proofs.YtcjflnnjieolfaaDoor.Kv
set_option linter.unusedSimpArgs false
set_option linter.unusedVariables false
set_option linter.unnecessarySimpa false
open Go.RowKit Go.Lib Go.Sort Go.Proofs.YtcjflnnjieolfaaDoor.Crc Go.Proofs.YtcjflnnjieolfaaDoor.Cm

attribute [local go_sem] Oper.semAt_some
theorem nodup_len {m : KM} {ss : List (List UInt8)} (hn : ss.Nodup) (hk : ∀ k ∈ ss, ∃ v, mfind m k = some v) : ss.length ≤ m.length := by
  induction ss generalizing m with
  | nil => simp
  | cons k ss ih =>
    obtain ⟨v, hv⟩ := hk k (by simp)
    obtain ⟨h1, h2⟩ := List.nodup_cons.1 hn
    have h3 := ih h2 (m := mdel m k) fun j hj => by
      obtain ⟨u, hu⟩ := hk j (by simp [hj])
      exact ⟨u, by rw [mfind_del, if_neg (fun e : j = k => h1 (e ▸ hj))]; exact hu⟩
    have h4 := len_del_lt hv
    simp only [List.length_cons]
    omega
theorem walks_upd {w w' : World} {S : List Nat} (h : Upd S w w') (hS : ∀ k ∈ S, ∀ o, w.heap[k]? = some o → o.isWalk = false) : KeepsWalks w w' :=
  ⟨h.size, fun k o hk ho => by
    by_cases hm : k ∈ S
    · rw [hS k hm o hk] at ho; cases ho
    · exact h.get hk hm⟩
theorem own_nowalk {w : World} {base n z : Nat} {e : TypeId} {v : Value} {xs : List Value} (h : w.ownsRow base e z v n xs) : ∀ k ∈ v.ownBlock.toList, ∀ o, w.heap[k]? = some o → o.isWalk = false := by
  intro k hk o ho
  have hk' : v.ownBlock = some k := by simpa using hk
  rcases h.2 with ⟨rfl, -⟩ | ⟨g, cap, cur, rfl, -, hh, -⟩
  · cases hk'
  · cases hk'
    rw [hh] at ho
    cases ho
    rfl
set_option maxHeartbeats 4000000 in
theorem keys_any {b g : Nat} {m : KM} (w : World) (h : StIs w b g m) (hm : KvOk m) (hl : m.length ≤ 1000000) :
    Calls Tryd.prog 44 #[.pointer (some ⟨b, 0, none⟩)] w fun e w' => (∃ v, e = .returned v ∧ Strs w' (since w.heap.size w') v (m.map (·.1))) ∧ Upd [] w w' := by
  obtain ⟨i1, hi1, iz0, iz1, iz2⟩ := partsP infoT
  obtain ⟨ks, hkn⟩ : ∃ ks, m.map (·.1) = ks := ⟨_, rfl⟩
  rw [hkn]
  have KN := hide hkn
  clear hkn
  have ST := hide h; have HM := hide hm
  clear h hm
  refine calls_of_wp_marks Tryd.func44 rfl ?_
  simp only [Tryd.ntmps44, List.size_toArray, List.length_cons, List.length_nil, Nat.reduceAdd, Nat.reduceSub, Array.replicate_succ, Array.replicate_zero, List.push_toArray, List.append_toArray, List.nil_append, List.cons_append]
  have hb := blk_lt ST.out.blk
  have c0 : (w.alloc (.cells #[.slice none 0 0] 33)).cell? ⟨b, 0, none⟩ = some (.map (some g)) := blk_cell (((Upd.refl [] w).alloc _).get ST.out.blk (by simp)) rfl
  have cf : (w.alloc (.cells #[.slice none 0 0] 33)).frozen? ⟨b, 0, none⟩ = false := blk_free (((Upd.refl [] w).alloc _).get ST.out.blk (by simp))
  go_wp2_with fail
  refine (mkeys_any _).mono ?_
  rintro e w1 ⟨rfl, hp1, hz1, hu1⟩
  rw [World.size_alloc] at hp1 hz1 ⊢
  have hbx := hu1.get (blk_new w (.cells #[.slice none 0 0] 33)) (by simp)
  have HU1 := hide (((Upd.refl [] w).alloc (.cells #[.slice none 0 0] 33)).trans hu1); have HP1 := hide hp1; have HBX := hide hbx
  clear hu1 hp1 hbx c0 cf
  go_wp2_with fail
  have hgl := MapKind.is_lt ST.out.map
  refine wp_rangeP (gf := 89) rfl (enters_of Tryd.func89 (by kernel_rfl) rfl) (keys_iter (p := w.heap.size + 1) (g := g) (m := m) (fun q hq => by have := (HM.out.2 q hq).1; unfold maxLen; omega)) (fun _ => rfl) (by simp) (by simp)
    (fun W hu => ⟨by obtain ⟨cs, ty, x, hx⟩ := cell_blk HP1.out; have h2 := hu.get hx (by simp); simp only [World.cell?] at *; rw [h2, ← hx]; exact HP1.out, MapKind.is_upd_nil ST.out.map (HU1.out.trans hu)⟩)
    (fun pre W => Upd [] w W ∧ pre.Nodup ∧ (∀ k ∈ pre, ∃ v, mfind m k = some v) ∧ ∃ ao cap, W.heap[w.heap.size]? = some (.cells #[.slice ao pre.length cap] 33 (0, 0)) ∧
      W.ownsRow w.heap.size TStr 1 (.slice ao pre.length cap) pre.length (pre.map strV) ∧ (∀ q, (Value.slice ao pre.length cap).ownBlock = some q → w1.heap.size + 2 ≤ q)) (fun _ _ _ => False) ?hI ?hIw (fun _ _ _ _ h _ => h) ?h0 ?hround ?hdone (fun _ _ _ h _ => h.elim)
  case hI =>
    rintro pre W1 W2 ⟨h1, hn, hk, ao1, cap1, h2, h3, h4⟩ hu
    exact ⟨h1.trans_new hu (by simp; omega), hn, hk, ao1, cap1, hu.get h2 (by simp; omega), owns_upd h3 hu (fun k hk hm => by have := h4 k hk; simp at hm; omega), h4⟩
  case h0 =>
    intro W hu hsz
    exact ⟨HU1.out.trans hu, by simp, by simp, none, 0, hu.get HBX.out (by simp), World.ownsRow_nil W _ _ _, fun q hq => by cases hq⟩
  case hIw =>
    rintro pre r o W1 W2 ⟨h1, hn, hk, ao1, cap1, h2, h3, h4⟩ hge hr ho hu
    have hrn : r ≠ w.heap.size := by rintro rfl; rw [h2] at hr; cases hr; cases ho
    have hrq : ∀ q, (Value.slice ao1 pre.length cap1).ownBlock = some q → q ∉ [r] := fun q hq hm => by
      simp at hm
      subst hm
      have : o.isWalk = false := by
        rcases h3.2 with ⟨h5, -⟩ | ⟨q2, c2, cur, h5, -, h6, -⟩
        · rw [h5] at hq; cases hq
        · rw [h5] at hq
          cases hq
          rw [h6] at hr
          cases hr
          rfl
      rw [this] at ho
      cases ho
    have hsw := HU1.out.size
    exact ⟨h1.trans_new hu (by simp; omega), hn, hk, ao1, cap1, hu.get h2 (by simpa using fun e => hrn e.symm), owns_upd h3 hu hrq, h4⟩
  case hround =>
    rintro pre k W ⟨hnm, v, hkv⟩ hi hsz
    gi_wp2
    refine ⟨Keeps.refl _ _, KeepsWalks.refl _, fun W2 hu hi2 => ?_⟩
    obtain ⟨h1, hn, hk, ao1, cap1, h2, h3, h4⟩ := hi2 hi
    have hsz2 : w1.heap.size + 2 ≤ W2.heap.size := Nat.le_trans hsz hu.size
    have hpl := nodup_len hn hk
    have hnd2 : (pre ++ [k]).Nodup := by
      rw [List.nodup_append]
      exact ⟨hn, by simp, by simp; rintro a ha rfl; exact hnm ha⟩
    have hk2 : ∀ j ∈ pre ++ [k], ∃ v, mfind m j = some v := fun j hj => by
      rcases List.mem_append.1 hj with h | h
      · exact hk j h
      · rw [List.mem_singleton] at h
        exact ⟨v, h ▸ hkv⟩
    obtain ⟨cur, hcur⟩ : ∃ cur, pre.map strV = cur := ⟨_, rfl⟩
    rw [hcur] at h3
    have HCUR := hide hcur
    have hc := blk_cell (i := 0) h2 rfl
    have hf := blk_free (i := 0) h2
    simp only [List.getElem_toArray, List.getElem_cons_zero] at hc
    have HPL := hide hpl; have ND2 := hide hnd2; have HK2 := hide hk2
    have H1 := hide h1; have H2 := hide h2; have H3 := hide h3; have H4 := hide h4; have HPN := hide hn
    have hl1 : pre.length ≤ 1000000 := by omega
    clear hcur h1 h2 h3 h4 hi hi2 hu hnm hkv hn hk hnd2 hk2 hpl
    gi_wp2_with (gi_at_builtin; go_must (refine wpListIn_append_src _ rfl _ _ 33 rfl w.heap.size 9 i1 (.string ByteArray.empty) 1 16 Tryd.underlying33 hi1 iz0 iz1 iz2 rfl (by decide) (.slice ao1 pre.length cap1) pre.length cur rfl (H3.out.alloc _) (some ⟨W2.heap.size, 0, none⟩) 1 1 [strV k] rfl (src_one (cell_new1 rfl) rfl) (by unfold maxLen; omega) (by omega) (by simp; have := H1.out.size; omega) ?_))
    intro ao3 cap3 W3 hown3 hU3 hn3
    have hne : w.heap.size ∉ (Value.slice ao1 pre.length cap1).ownBlock.toList := fun hm => by
      have := H4.out w.heap.size (by simpa using hm)
      have := HU1.out.size
      omega
    have hN3 := hU3.get (b := w.heap.size) (blk_alloc H2.out _) hne
    have hc3 := blk_cell (i := 0) hN3 rfl
    have hf3 := blk_free (i := 0) hN3
    simp only [List.getElem_toArray, List.getElem_cons_zero] at hc3
    have U3 := hide hU3; have O3 := hide hown3; have B3 := hide hN3; have N3 := hide hn3; have NE := hide hne
    clear hN3 hown3 hU3 hn3 hne
    gi_wp2
    have hU : Upd (w.heap.size :: (Value.slice ao1 pre.length cap1).ownBlock.toList) W2 (W3.setCell ⟨w.heap.size, 0, none⟩ (.slice ao3 (pre.length + 1) cap3)) :=
      ((((Upd.refl _ W2).alloc _).trans (U3.out.mono (fun k hk => by simp at hk ⊢; exact .inr hk)))).setCell (.inl (by simp)) _
    have hsw := HU1.out.size
    have hlt2 := blk_lt H2.out
    have hn4 : ∀ q, (Value.slice ao3 (pre.length + 1) cap3).ownBlock = some q → w1.heap.size + 2 ≤ q := fun q hq => by
      rcases N3.out q hq with h | h
      · exact H4.out q h
      · omega
    refine ⟨Keeps.of_upd hU (fun q hq => ⟨fun hm => ?_, ?_⟩), ((KeepsWalks.alloc W2 _).trans (walks_upd U3.out (own_nowalk (H3.out.alloc _)))).trans (KeepsWalks.setCell _ _ _), H1.out.trans_new hU (fun q hq => ?_), ND2.out, HK2.out, ao3, cap3, ?_, ?_, fun q hq => hn4 q (by simpa using hq)⟩
    · simp only [List.mem_cons, Option.mem_toList, List.not_mem_nil, or_false] at hq hm
      rcases hm with h5 | h5
      · omega
      · have := H4.out q h5
        omega
    · simp only [List.mem_cons, List.not_mem_nil, or_false] at hq
      omega
    · simp only [List.mem_cons, Option.mem_toList] at hq ⊢
      rcases hq with h5 | h5
      · exact .inr (by omega)
      · exact .inr (by have := H4.out q h5; omega)
    · have := blk_set (i := 0) B3.out (.slice ao3 (pre.length + 1) cap3)
      simpa using this
    · have h7 := ownsRow_setCell_other O3.out (a := ⟨w.heap.size, 0, none⟩) (by
        intro h5
        have := hn4 w.heap.size h5
        omega) (.slice ao3 (pre.length + 1) cap3)
      have e1 : (pre ++ [k]).map strV = cur ++ [strV k] := by rw [← HCUR.out]; simp
      rw [e1]
      simpa using h7
  case hdone =>
    rintro xs W hsp ⟨h1, hn, hk, ao1, cap1, h2, h3, h4⟩ hd
    have hks := keys_sort HM.out.1 hsp.1 hsp.2
    rw [KN.out] at hks
    have hc := blk_cell (i := 0) h2 rfl
    have hpl := nodup_len hn hk
    simp only [List.getElem_toArray, List.getElem_cons_zero] at hc
    have H1 := hide h1; have H2 := hide h2; have H3 := hide h3; have H4 := hide h4; have HD := hide hd; have KS := hide hks; have HPL := hide hpl
    have hl1 : xs.length ≤ 1000000 := by omega
    have hsw := HU1.out.size
    by_cases h0 : xs.length = 0
    · have hxe : xs = [] := List.eq_nil_of_length_eq_zero h0
      subst hxe
      have hkn2 : ks = [] := by rw [← KS.out]; simp
      have HKN := hide hkn2
      have S0 := hide ((strs_own (l := []) h3 rfl).mono (U := fun k => w1.heap.size + 2 ≤ k ∧ k < W.heap.size) (fun k hk => ⟨h4 k hk, (owns_lt h3 k hk).2⟩))
      clear h1 hn hk h2 h3 h4 hd hks hpl h0 hsp hkn2
      go_wp2_with fail
      refine (sh_slices_Sort_string_none ao1 cap1 W).mono ?_
      rintro e w3 ⟨rfl, rfl⟩
      go_wp2_with fail
      refine leaves_one HD.out (results_tmp rfl _ _ _) ⟨⟨_, rfl, ?_⟩, H1.out.putObj (.inr (by omega)) _⟩
      rw [HKN.out]
      exact (S0.out.upd ((Upd.refl [w1.heap.size] w3).putObj (l := w1.heap.size) (.inl (by simp)) (.deferred none)) (fun k hk e => by simp at hk; omega)).mono (fun k hk => ⟨by omega, by simp; omega⟩)
    · obtain ⟨ao, cap, e, -, -, hcl⟩ := owns_slice h3
      cases e
      obtain ⟨q, rfl, -⟩ := hcl 0 (strV (xs[0]'(by omega))) (by rw [List.getElem?_map, List.getElem?_eq_getElem (by omega)]; rfl)
      obtain ⟨hH, hcm, hcM, hgb, hql⟩ := holds_row h3
      have hq := h4 q rfl
      have hsl : (xs.mergeSort fun x y => decide (x ≤ y)).length = xs.length := List.length_mergeSort _
      have hkl : ks.length = xs.length := by rw [← KS.out, hsl]
      have HH := hide hH; have SLN := hide hsl; have HKL := hide hkl
      clear h1 hn hk h2 h3 h4 hd hks hpl h0 hsp hcl hH hsl hkl
      go_wp2_with fail
      refine (sh_slices_Sort_string q 0 cap1 xs W HH.out hql (by omega)).mono ?_
      rintro e w3 ⟨rfl, n, os, rfl⟩
      have hh3 := holds_grow (holds_putRow encStr (Sort.ahead W n) q 0 xs.toArray (xs.mergeSort fun x y => decide (x ≤ y)).toArray (holds_ahead _ _ _ _ _ _ HH.out) (by simpa using SLN.out)) (by simpa using hql) os
      have hu3 : Upd [q] W (grow (putRow encStr (Sort.ahead W n) q 0 (xs.mergeSort fun x y => decide (x ≤ y)).toArray) os) :=
        (((Upd.refl [q] W).drewN n).trans (upd_putRow encStr (Sort.ahead W n) q 0 _)).trans ((upd_growA os).mono (by simp))
      generalize grow (putRow encStr (Sort.ahead W n) q 0 (xs.mergeSort fun x y => decide (x ≤ y)).toArray) os = w3 at *
      rw [KS.out] at hh3
      have hb3 := hu3.get H2.out (by simp; omega)
      have hc3 := blk_cell (i := 0) hb3 rfl
      simp only [List.getElem_toArray, List.getElem_cons_zero] at hc3
      have HH3 := hide hh3; have U3 := hide hu3; have D3 := hide (hu3.get HD.out (by simp; omega))
      have hz3 := hu3.size
      clear hh3 hu3 hb3 hc
      go_wp2_with fail
      refine leaves_one D3.out (results_tmp rfl _ _ _) ⟨⟨_, rfl, ?_⟩, (H1.out.trans_new U3.out (fun k hk => .inr (by simp at hk; omega))).putObj (.inr (by omega)) _⟩
      have h9 := strs_holds (T := fun k => k = q) HH3.out HKL.out.symm hcm hcM rfl
      exact (h9.upd ((Upd.refl [w1.heap.size] w3).putObj (l := w1.heap.size) (.inl (by simp)) (.deferred none)) (fun k hk e => by simp at hk; omega)).mono (fun k hk => by subst hk; exact ⟨by omega, by simp; omega⟩)
end Go.Proofs.YtcjflnnjieolfaaDoor.Kv
namespace Go.Proofs.YtcjflnnjieolfaaDoor.Kv
set_option linter.unusedSimpArgs false
set_option linter.unusedVariables false
open Go.RowKit Go.Lib Go.Proofs.YtcjflnnjieolfaaDoor.Crc Go.Proofs.YtcjflnnjieolfaaDoor.Cm Go.Proofs.YtcjflnnjieolfaaDoor.Var

theorem Grew.trans {w w1 w2 : World} {base : Nat} {v v1 v2 : Value} {b1 b2 : List UInt8} (h : Grew w base v b1 v1 w1) (k : Grew w1 base v1 b2 v2 w2) (hz : w.heap.size ≤ w1.heap.size) : Grew w base v b2 v2 w2 :=
  ⟨k.own, h.upd.trans_new k.upd (fun g hm => by
    have hg : v1.ownBlock = some g := by simpa using hm
    rcases h.new g hg with h1 | h1
    · exact .inl (by simp [h1])
    · exact .inr h1), fun g hg => by
    rcases k.new g hg with h1 | h1
    · exact h.new g h1
    · exact .inr (by omega)⟩
theorem Grew.upd_nil {w w1 w2 : World} {base : Nat} {v v1 : Value} {b1 : List UInt8} (h : Grew w base v b1 v1 w1) (hu : Upd [] w1 w2) : Grew w base v b1 v1 w2 :=
  ⟨owns_upd h.own hu (by simp), h.upd.trans (hu.mono (by simp)), h.new⟩
set_option maxRecDepth 100000 in
set_option maxHeartbeats 1000000 in
theorem text_any {base : Nat} {v : Value} {bs s : List UInt8} (w : World) (hv : w.ownsRow base 5 1 v bs.length (bs.map u8v)) (hb : base ≤ w.heap.size) (hl : bs.length ≤ 1000000000) (hs : s.length ≤ 1000000000) :
    Calls Tryd.prog 45 #[v, .string (strOf s)] w fun e w' => ∃ v', e = .returned v' ∧ Grew w base v (bs ++ txB s) v' w' := by
  have hz := strOf_size s
  obtain ⟨i0, hi, hz0, hz1, hz2⟩ := info_parts infoB
  obtain ⟨ao, cap, rfl, -, -, -⟩ := owns_slice hv
  have HV := hide hv
  clear hv
  go_enter Tryd.func45, Tryd.ntmps45
  go_wp2_with fail
  refine (uint_any (base := base) (n := s.length) _ HV.out hb (by omega) (by omega)).mono ?_
  rintro e w1 ⟨v1, rfl, h1⟩
  have hul := uv_len10 (n := s.length) (by omega)
  have hz1' := h1.upd.size
  have G1 := hide h1
  clear h1
  go_wp2_with (at_builtin; go_must (refine wpList_append_mystr _ rfl _ _ 23 9 rfl base 5 i0 Tryd.underlying23 Tryd.underlying9 hi hz0 hz1 hz2 v1 _ _ rfl G1.out.own (strOf s) rfl (by rw [hz, List.length_append]; unfold maxLen; omega) (by rw [hz, List.length_append]; omega) (by omega) ?_))
  intro v2 w2 ho hu hn
  have hg2 : Grew w1 base v1 (bs ++ txB s) v2 w2 := ⟨by simpa [strCells_of, Nat.add_assoc, txB] using ho, hu, hn⟩
  have HG := hide (Grew.trans G1.out hg2 hz1')
  clear ho hu hn hg2 hz G1
  go_wp2_with fail
  go_ret
  exact ⟨_, rfl, HG.out⟩
end Go.Proofs.YtcjflnnjieolfaaDoor.Kv
namespace Go.Proofs.YtcjflnnjieolfaaDoor.Kv
set_option linter.unusedSimpArgs false
set_option linter.unusedVariables false
set_option linter.unnecessarySimpa false
open Go.RowKit Go.Lib Go.Proofs.YtcjflnnjieolfaaDoor.Crc Go.Proofs.YtcjflnnjieolfaaDoor.Cm Go.Proofs.YtcjflnnjieolfaaDoor.Var

theorem klen_any {b g : Nat} {m : KM} (w : World) (h : StIs w b g m) : Calls Tryd.prog 30 #[.pointer (some ⟨b, 0, none⟩)] w fun e w' => e = .returned (.int .i64 (m.length : Int)) ∧ w = w' := by
  have n1 : ∀ ty, (Builtin.len_ #[74] ty #[.map (some g)]).run Tryd.prog w = .ok (.int .i64 (m.length : Int)) w := fun ty => MapKind.len h.map ty
  have c0 : w.cell? ⟨b, 0, none⟩ = some (.map (some g)) := blk_cell h.blk rfl
  clear h
  go_enter Tryd.func30, Tryd.ntmps30
  go_wp2_with fail
  go_ret
  exact ⟨rfl, rfl⟩
set_option maxRecDepth 100000 in
theorem kget_any {b g : Nat} {m : KM} {k : List UInt8} (w : World) (h : StIs w b g m) (hk : k.length ≤ maxLen) :
    Calls Tryd.prog 19 #[.pointer (some ⟨b, 0, none⟩), .string (strOf k)] w fun e w' => e = .returned (.tuple #[.string (strOf ((mfind m k).getD [])), .bool (mfind m k).isSome]) ∧ w = w' := by
  have hm := MapKind.look h.map (k := k) hk
  have hm' : (Instr.lookup 74 (.map (some g)) (.string (strOf k)) true).run Tryd.prog w = .ok (.tuple #[.string (strOf ((mfind m k).getD [])), .bool (mfind m k).isSome]) w := hm
  have c0 : w.cell? ⟨b, 0, none⟩ = some (.map (some g)) := blk_cell h.blk rfl
  clear h hm
  go_enter Tryd.func19, Tryd.ntmps19
  go_wp2_with fail
  go_ret2
  exact ⟨rfl, rfl⟩
set_option maxRecDepth 100000 in
theorem kv_look1 {w : World} {g : Nat} {m : KM} {k : List UInt8} (h : kvK.is w g m) (hk : k.length ≤ 1000000) : (Instr.lookup 74 (.map (some g)) (.string (strOf k)) false).run Tryd.prog w = .ok (.string (strOf ((mfind m k).getD []))) w :=
  MapKind.look1 h (by show k.length ≤ maxLen; unfold maxLen; omega)
theorem rise_find {m : KM} {p : List UInt8 × List UInt8} (h : Rise strK m) (hp : p ∈ m) : mfind m p.1 = some p.2 := by
  induction m with
  | nil => cases hp
  | cons a t ih =>
    obtain ⟨h1, h2⟩ := List.pairwise_cons.1 h
    rw [mfind_cons]
    rcases List.mem_cons.1 hp with rfl | hp
    · rw [if_pos rfl]
    · have := h1 p hp
      rw [if_neg (fun e => by rw [e, strK.lt_irrefl] at this; cases this)]
      exact ih h2 hp
theorem prs_len (m : KM) (hm : KvOk m) : (m.flatMap prB).length ≤ 116 * m.length := by
  have key : ∀ l : KM, (∀ p ∈ l, p.1.length ≤ 32 ∧ p.2.length ≤ 64) → (l.flatMap prB).length ≤ 116 * l.length := by
    intro l
    induction l with
    | nil => simp
    | cons p l ih =>
      intro h
      have h1 := ih fun q hq => h q (by simp [hq])
      have h2 := h p (by simp)
      have h3 := uv_len10 (n := p.1.length) (by omega)
      have h4 := uv_len10 (n := p.2.length) (by omega)
      rw [List.flatMap_cons, List.length_append, List.length_cons]
      simp only [prB, txB, List.length_append]
      omega
  exact key m hm.2
set_option maxRecDepth 100000 in
set_option maxHeartbeats 4000000 in
theorem kput_any {base b g : Nat} {v : Value} {bs : List UInt8} {m : KM} (w : World) (h : StIs w b g m) (hm : KvOk m) (hl : m.length ≤ 1000000) (hv : w.ownsRow base 5 1 v bs.length (bs.map u8v)) (hb : base ≤ w.heap.size) (hbl : bs.length ≤ 100000000)
    (h1 : v.ownBlock ≠ some b) (h2 : v.ownBlock ≠ some g) :
    Calls Tryd.prog 24 #[.pointer (some ⟨b, 0, none⟩), v] w fun e w' => ∃ v', e = .returned v' ∧ Grew w base v (bs ++ kvB m) v' w' := by
  have hpr := prs_len m hm
  obtain ⟨ao, cap, rfl, -, -, -⟩ := owns_slice hv
  have hul := uv_len10 (n := m.length) (by omega)
  obtain ⟨B1, hB1⟩ : ∃ B, bs ++ uv m.length = B := ⟨_, rfl⟩
  have hb1l : B1.length ≤ 100000010 := by rw [← hB1, List.length_append]; omega
  have hgoal : bs ++ kvB m = B1 ++ m.flatMap prB := by rw [kvB, ← hB1]; simp
  rw [hgoal]
  clear hgoal
  have BB := hide hB1
  clear hB1
  have ST := hide h; have HM := hide hm; have HV := hide hv; have H1 := hide h1; have H2 := hide h2
  clear h hm hv h1 h2
  go_enter Tryd.func24, Tryd.ntmps24
  go_wp2_with fail
  refine (klen_any w ST.out).mono ?_
  rintro e w0 ⟨rfl, rfl⟩
  have e1 : IntKind.u64.wrap (m.length : Int) = (m.length : Int) := IntWalk.u64_in _ (by omega)
  go_wp2_with fail
  refine (uint_any (base := base) (n := m.length) _ HV.out hb (by omega) (by omega)).mono ?_
  rw [BB.out]
  rintro e w1 ⟨v1, rfl, hg1⟩
  have G1 := hide hg1
  have ST1 := hide (ST.out.upd hg1.upd (by simpa using H1.out) (by simpa using H2.out))
  obtain ⟨a1, c1, rfl, -, -, -⟩ := owns_slice hg1.own
  have hz1 := hg1.upd.size
  clear hg1
  go_wp2_with fail
  refine (keys_any w1 ST1.out HM.out hl).mono ?_
  rintro e w2 ⟨⟨vk, rfl, hks⟩, hu2⟩
  have G2 := hide (Grew.upd_nil G1.out hu2); have ST2 := hide (ST1.out.upd_nil hu2)
  have hz2 := hu2.size
  obtain ⟨xo, cp, rfl, hk1, hk2, hget⟩ := hks.get
  have hol1 := owns_lt G1.out.own
  have hn1 := G1.out.new
  simp only [List.length_map] at hk1 hks ⊢
  have KS := hide hks; have KG := hide hget
  have HOL := hide hol1; have HN1 := hide hn1
  have hbl2 := blk_lt ST.out.blk; have hgl2 := MapKind.is_lt ST.out.map
  have HB1 := hide (show ∀ k, (Value.slice a1 B1.length c1).ownBlock = some k → k ≠ b ∧ k ≠ g ∧ k < w1.heap.size from fun k hk => by
    have h3 := hol1 k hk
    rcases hn1 k hk with h4 | h4
    · exact ⟨fun e => H1.out (e ▸ h4), fun e => H2.out (e ▸ h4), h3.2⟩
    · exact ⟨by omega, by omega, h3.2⟩)
  have G2' : Hid (Grew w2 base (.slice a1 B1.length c1) B1 (.slice a1 B1.length c1) w2) := hide ⟨G2.out.own, Upd.refl _ _, fun g hg => .inl hg⟩
  clear hks hget hu2 G1 ST1 hol1 hn1 HOL HN1
  have KSF := hide (show ∀ (j : Nat) (p : List UInt8 × List UInt8) (wr : World), m[j]? = some p → Upd (Value.slice a1 B1.length c1).ownBlock.toList w2 wr → ∃ b off, xo = some ⟨b, off, none⟩ ∧ wr.cell? ⟨b, off + j, none⟩ = some (.string (strOf p.1)) from fun j p wr hp hu => by
    obtain ⟨bk, ok, e1, hbk, hkc⟩ := KG.out j p.1 (by rw [List.getElem?_map, hp]; rfl)
    refine ⟨bk, ok, e1, cell_upd hkc hu (fun hm2 => ?_)⟩
    obtain ⟨xo', c', e2, -, -, -, hT⟩ := KS.out
    simp only [List.length_map, Value.slice.injEq, true_and] at e2
    obtain ⟨rfl, rfl⟩ := e2
    have h6 := hT _ e1 (by have := (List.getElem?_eq_some_iff.1 hp).1; rw [List.length_map]; omega)
    have h7 := (HB1.out bk (by simpa using hm2)).2.2
    have := h6.1
    simp only at this
    omega)
  clear KS KG
  go_wp2_with fail
  go_loopw [1, 15] (fun sb si wr => ∃ (j : Nat) (B : List UInt8), j ≤ m.length ∧ si = .int .i64 j ∧ B = B1 ++ (m.take j).flatMap prB ∧ Grew w2 base (.slice a1 B1.length c1) B sb wr) (fun _ si _ => m.length - (RowKit.intOf si).toNat)
  case atStart => exact ⟨0, B1, by omega, rfl, by simp, G2'.out⟩
  case round =>
    obtain ⟨j, B, hj, rfl, hB, hg⟩ := hrel
    obtain ⟨ab, cb, rfl, -, -, -⟩ := owns_slice hg.own
    have HG := hide hg; have HBB := hide hB
    have STr := hide (ST2.out.upd hg.upd (fun hm2 => (HB1.out b (by simpa using hm2)).1 rfl) (fun hm2 => (HB1.out g (by simpa using hm2)).2.1 rfl))
    have hzr := hg.upd.size
    have hbl : B.length ≤ 300000000 := by
      rw [hB, List.length_append]
      have h3 : ((m.take j).flatMap prB).length ≤ (m.flatMap prB).length := by
        conv => rhs; rw [← List.take_append_drop j m, List.flatMap_append, List.length_append]
        omega
      omega
    clear hg hB
    by_cases hlt : j < m.length
    · have d5 : decide ((j : Int) < m.length) = true := by simp; omega
      have d5' : decide (j < m.length) = true := by simpa using hlt
      obtain ⟨p, hp⟩ : ∃ p, m[j]? = some p := ⟨_, List.getElem?_eq_getElem hlt⟩
      obtain ⟨bk, ok, rfl, c1⟩ := KSF.out j p wr hp HG.out.upd
      have hpb := HM.out.2 p (List.mem_of_getElem? hp)
      have hfind : mfind m p.1 = some p.2 := rise_find HM.out.1 (List.mem_of_getElem? hp)
      have HP := hide hp; have HF := hide hfind
      clear hp hfind
      go_upto_region 5 with fail
      refine wp_region_z (fun wx => StIs wx b g m) 99 (by kernel_rfl) ?_
      have s0 : StIs (wr.drewN 1) b g m := STr.out.upd_nil ((Upd.refl [] _).drewN 1)
      refine wpAnyZ_takeE 0 rfl (by kernel_rfl) (by kernel_rfl) (by kernel_rfl) (by kernel_rfl) (fun _ _ _ _ h => h) rfl (by exact s0) ?_
      apply Exists.intro
      refine ⟨fun wx hS => ?_, ?_⟩
      · go_simp; rfl
      simp only [Act.put, List.setIfInBounds_toArray, List.set_cons_succ, List.set_cons_zero, List.getElem_toArray, List.getElem_cons_zero]
      refine wpAnyZ_takeE 1 rfl (by kernel_rfl) (by kernel_rfl) (by kernel_rfl) (by kernel_rfl) (fun _ _ _ _ h => h) rfl (by exact s0) ?_
      apply Exists.intro
      refine ⟨fun wx hS => ?_, ?_⟩
      · go_simp; rfl
      simp only [Act.put, List.setIfInBounds_toArray, List.set_cons_succ, List.set_cons_zero, List.getElem_toArray, List.getElem_cons_succ, List.getElem_cons_zero]
      refine wpAnyZ_takeE 3 rfl (by kernel_rfl) (by kernel_rfl) (by kernel_rfl) (by kernel_rfl) (fun _ _ _ _ h => h) rfl (by exact s0) ?_
      apply Exists.intro
      refine ⟨fun wx hS => ?_, ?_⟩
      · go_simp; rfl
      simp only [Act.put, List.setIfInBounds_toArray, List.set_cons_succ, List.set_cons_zero, List.getElem_toArray, List.getElem_cons_succ, List.getElem_cons_zero]
      refine wpAnyZ_takeE 4 rfl (by kernel_rfl) (by kernel_rfl) (by kernel_rfl) (by kernel_rfl) (fun _ _ _ _ h => h) rfl (by exact s0) ?_
      apply Exists.intro
      refine ⟨fun wx hS => ?_, ?_⟩
      · go_simp; rfl
      simp only [Act.put, List.setIfInBounds_toArray, List.set_cons_succ, List.set_cons_zero, List.getElem_toArray, List.getElem_cons_succ, List.getElem_cons_zero]
      refine wpAnyZ_takeE 5 rfl (by kernel_rfl) (by kernel_rfl) (by kernel_rfl) (by kernel_rfl) (fun _ _ _ _ h => h) rfl (by exact s0) ?_
      apply Exists.intro
      refine ⟨fun wx hS => ?_, ?_⟩
      · go_simp; rfl
      simp only [Act.put, List.setIfInBounds_toArray, List.set_cons_succ, List.set_cons_zero, List.getElem_toArray, List.getElem_cons_succ, List.getElem_cons_zero]
      refine wpAnyZ_takeE 6 rfl (by kernel_rfl) (by kernel_rfl) (by kernel_rfl) (by kernel_rfl) (fun _ _ _ _ h => h) rfl (by exact s0) ?_
      apply Exists.intro
      refine ⟨fun wx hS => ?_, ?_⟩
      · have c0 := blk_cell (i := 0) hS.blk rfl; go_simp; rfl
      simp only [Act.put, List.setIfInBounds_toArray, List.set_cons_succ, List.set_cons_zero, List.getElem_toArray, List.getElem_cons_succ, List.getElem_cons_zero]
      refine wpAnyZ_takeE 7 rfl (by kernel_rfl) (by kernel_rfl) (by kernel_rfl) (by kernel_rfl) (fun _ _ _ _ h => h) rfl (by exact s0) ?_
      apply Exists.intro
      refine ⟨fun wx hS => ?_, ?_⟩
      · go_simp; rfl
      simp only [Act.put, List.setIfInBounds_toArray, List.set_cons_succ, List.set_cons_zero, List.getElem_toArray, List.getElem_cons_succ, List.getElem_cons_zero]
      refine wpAnyZ_takeE 8 rfl (by kernel_rfl) (by kernel_rfl) (by kernel_rfl) (by kernel_rfl) (fun _ _ _ _ h => h) rfl (by exact s0) ?_
      apply Exists.intro
      refine ⟨fun wx hS => ?_, ?_⟩
      · have hm' := kv_look1 (k := p.1) hS.map (by omega); go_simp; rfl
      simp only [Act.put, List.setIfInBounds_toArray, List.set_cons_succ, List.set_cons_zero, List.getElem_toArray, List.getElem_cons_succ, List.getElem_cons_zero]
      refine wpAnyZ_one 2 (by kernel_rfl) rfl rfl (fun K hK => ?_)
      try simp only [List.getElem_toArray, List.getElem_cons_succ, List.getElem_cons_zero]
      go_simp
      have hzd : (wr.drewN 1).heap.size = wr.heap.size := rfl
      have h32 : (B ++ txB p.1).length ≤ 400000000 := by
        have h4 := uv_len10 (n := p.1.length) (by omega)
        simp only [txB, List.length_append]
        omega
      have hn4 : B ++ txB p.1 ++ txB p.2 = B1 ++ (m.take (j + 1)).flatMap prB := by
        rw [HBB.out, List.take_add_one, HP.out]
        simp [prB]
      obtain ⟨B2, hB2⟩ : ∃ x, B ++ txB p.1 = x := ⟨_, rfl⟩
      rw [hB2] at h32 hn4
      obtain ⟨B3, hB3⟩ : ∃ x, B2 ++ txB p.2 = x := ⟨_, rfl⟩
      rw [hB3] at hn4
      have K2 := hide hB2; have K3 := hide hB3; have HN := hide hn4
      clear hB2 hB3 hn4
      refine (text_any (base := base) (bs := B) (s := p.1) (wr.drewN 1) (owns_upd HG.out.own ((Upd.refl [] wr).drewN 1) (by simp)) (by rw [hzd]; omega) (by omega) (by omega)).mono ?_
      rw [K2.out]
      rintro e w3 ⟨v3, rfl, h3⟩
      have g3 := Grew.trans (Grew.upd_nil HG.out ((Upd.refl [] wr).drewN 1)) h3 (by rw [hzd]; omega)
      obtain ⟨a3, c3, rfl, -, -, -⟩ := owns_slice g3.own
      have s3 : StIs w3 b g m := ST2.out.upd g3.upd (fun hm2 => (HB1.out b (by simpa using hm2)).1 rfl) (fun hm2 => (HB1.out g (by simpa using hm2)).2.1 rfl)
      have hz3 := g3.upd.size
      have G3 := hide g3; have S3 := hide s3
      clear h3 g3
      refine hK _ _ (.inr s3) ?_
      clear hK K
      try simp only [Act.put, List.setIfInBounds_toArray, List.set_cons_succ, List.set_cons_zero]
      clear s0 s3
      refine wpAnyZ_one 9 (by kernel_rfl) rfl rfl (fun K hK => ?_)
      try simp only [List.getElem_toArray, List.getElem_cons_succ, List.getElem_cons_zero]
      go_simp
      rw [HF.out]
      refine (text_any (base := base) (bs := B2) (s := p.2) w3 G3.out.own (by omega) (by omega) (by omega)).mono ?_
      rw [K3.out]
      rintro e w4 ⟨v4, rfl, h4⟩
      have g4 := Grew.trans G3.out h4 (by omega)
      obtain ⟨a4, c4, rfl, -, -, -⟩ := owns_slice g4.own
      have s4 : StIs w4 b g m := ST2.out.upd g4.upd (fun hm2 => (HB1.out b (by simpa using hm2)).1 rfl) (fun hm2 => (HB1.out g (by simpa using hm2)).2.1 rfl)
      have G4 := hide g4
      clear h4 g4
      refine hK _ _ (.inr s4) ?_
      clear hK K
      try simp only [Act.put, List.setIfInBounds_toArray, List.set_cons_succ, List.set_cons_zero]
      refine wpAnyZ_takeE 10 rfl (by kernel_rfl) (by kernel_rfl) (by kernel_rfl) (by kernel_rfl) (fun _ _ _ _ h => h) rfl (by exact s4) ?_
      apply Exists.intro
      refine ⟨fun wx hS => ?_, ?_⟩
      · go_simp; rfl
      simp only [Act.put, List.setIfInBounds_toArray, List.set_cons_succ, List.set_cons_zero, List.getElem_toArray, List.getElem_cons_succ, List.getElem_cons_zero]
      refine wpAnyZ_done (by kernel_rfl) ?_ _
      clear s4
      go_wp2_with fail
      go_roundw
      case rel => exact ⟨j + 1, _, by omega, by go_num, HN.out, G4.out⟩
      case measure => simp [RowKit.intOf]; omega
    · have d5 : decide ((j : Int) < m.length) = false := by simp; omega
      have d5' : decide (j < m.length) = false := by simpa using hlt
      have hje : m.take j = m := List.take_of_length_le (by omega)
      rw [hje] at HBB
      have hb2 := HBB.out
      subst hb2
      clear hlt hje HBB
      go_wp2_with fail
      go_ret
      exact ⟨_, rfl, Grew.trans G2.out HG.out (by omega)⟩
end Go.Proofs.YtcjflnnjieolfaaDoor.Kv
namespace Go.Proofs.YtcjflnnjieolfaaDoor.Kv
set_option linter.unusedSimpArgs false
set_option linter.unusedVariables false
set_option linter.unnecessarySimpa false
open Go.RowKit Go.Lib Go.Proofs.YtcjflnnjieolfaaDoor.Crc Go.Proofs.YtcjflnnjieolfaaDoor.Cm Go.Proofs.YtcjflnnjieolfaaDoor.Var

theorem kvB_len (m : KM) : m.length ≤ (kvB m).length := by
  have key : ∀ l : KM, l.length ≤ (l.flatMap prB).length := by
    intro l
    induction l with
    | nil => simp
    | cons p l ih =>
      have h1 := uv_len_pos p.1.length
      rw [List.flatMap_cons, List.length_append, List.length_cons]
      simp only [prB, txB, List.length_append]
      omega
  have := key m
  rw [kvB, List.length_append]
  omega
theorem takeK_zero {lim : Nat} {s : Int × List UInt8} (h : (takeK lim s).2.1 = 0) : ∃ m r, takeK lim s = (some m, 0, (0, r)) := by
  unfold takeK takeF at *
  rcases ht : takeL lim (uintM s).1 (uintM s).2 [] [] with ⟨_ | m, s'⟩
  · rw [ht] at h; simp at h
  · rw [ht] at h
    simp only at h ⊢
    split at h
    · rename_i h1; exact absurd h h1
    · rename_i h1
      rw [if_neg h1]
      obtain ⟨e, r⟩ := s'
      have : e = 0 := by simpa using h1
      subst this
      exact ⟨m, r, rfl⟩
/-- The command that the law does. -/
def nsk : List UInt8 := [110, 111, 32, 115, 117, 99, 104, 32, 107, 101, 121]
def nsc : Cm := ⟨1, 0, 1, [nsk], [], [120], 0⟩
theorem nsc_good : Cm.Good nsc := by decide
theorem nsc_fits : nsc.Fits := fits_small (by decide) (by decide) (by decide) (by decide) (by decide) (by decide) (by decide) (by decide)
theorem nsc_do (m : KM) : kvDo m nsc = (mput strK m nsk [120], ⟨0, []⟩) := by
  unfold kvDo
  rw [if_pos nsc_good]
  rfl
theorem rds_of {w : World} {R : Nat} {lim : Int} {xo : Option Addr} {m c : Nat} {bs : List UInt8} {T : Nat → Prop} (h : RdAt w R 0 xo m c lim) (hs : SrcAt w xo m c (bs.map u8v) 1) (hc : m ≤ c) (hT : ∀ a, xo = some a → m ≠ 0 → T a.block) : RdS w T R lim (0, bs) :=
  ⟨xo, m, c, h, fun _ => ⟨hs, hc, hT⟩⟩
theorem src_lt {w : World} {xo : Option Addr} {m c : Nat} {bs : List UInt8} (hs : SrcAt w xo m c (bs.map u8v) 1) : ∀ a, xo = some a → m ≠ 0 → a.block < w.heap.size := fun a e hm => by
  have hl := hs.len
  have h0 : 0 < (bs.map u8v).length := by omega
  have := hs.cells a e 0 _ (List.getElem?_eq_getElem h0)
  have := World.block_lt_of_cell? w _ this
  rwa [show (a.add 0).block = a.block by unfold Addr.add; split <;> rfl] at this
set_option maxRecDepth 100000 in
set_option maxHeartbeats 8000000 in
theorem ktakes_any {bo : Option Addr} {bl bc : Nat} {bs : List UInt8} (w : World) (he : EnvAt w) (hs : SrcAt w bo bl bc (bs.map u8v) 1) (hc : bl ≤ bc) (hm : bc ≤ maxLen) :
    Calls Tryd.prog 5 #[.slice bo bl bc] w fun e w' => e = .returned (.bool true) ∧ Upd [] w w' := by
  have ENV := hide he; have SRC := hide hs
  have hlen : bs.length = bl := by have := hs.len; simpa using this
  have SLT := hide (src_lt hs)
  simp only [maxLen] at hm
  clear he hs
  go_enter Tryd.func5, Tryd.ntmps5
  by_cases hbig : 3000 < bl
  · have d0 : decide ((3000 : Int) < (bl : Int)) = true := by simp; omega
    clear hbig
    go_wp2_with fail
    refine (wakes9_any w ENV.out).mono ?_
    rintro e w1 ⟨rfl, hu⟩
    have U1 := hide hu
    clear hu
    go_wp2_with fail
    go_ret
    exact ⟨rfl, U1.out⟩
  have d0 : decide ((3000 : Int) < (bl : Int)) = false := by simp; omega
  have hbl : bs.length ≤ 3000 := by omega
  clear hbig
  go_wp2_with fail
  refine (Var.new_any (xo := bo) (m := bl) (c := bc) (lim := ((64 : Nat) : Int)) w).mono ?_
  rintro e w1 ⟨_, rfl, rfl, hr1, hu1⟩
  have r1 := rds_of (T := fun k => k < w.heap.size) hr1 (src_upd SRC.out hu1 (by simp)) hc (fun a ha hm => SLT.out a ha hm)
  have hlt1 := blk_lt hr1.hR
  have R1 := hide r1; have U1 := hide hu1
  obtain ⟨R, hR⟩ : ∃ R, w.heap.size = R := ⟨_, rfl⟩
  have KR := hide hR
  rw [hR] at R1 hlt1 ⊢
  clear hr1 hu1 r1 hR
  go_wp2_with fail
  refine (take_any w1 R1.out hlt1 (fun k hk => by have := KR.out; omega) (by simp only; omega) (by omega)).mono ?_
  rintro e w2 ⟨⟨v2, rfl, hv2⟩, hr2, hu2⟩
  have U2 := hide (U1.out.trans_new hu2 (fun k hk => .inr (by have := KR.out; simp at hk; omega)))
  have E2 := hide (ENV.out.upd_nil U2.out)
  have hz2 := hu2.size
  by_cases h0 : (takeK 64 (0, bs)).2.1 = 0
  · obtain ⟨m, r, ht⟩ := takeK_zero h0
    rw [ht] at hv2 hr2 ⊢
    obtain ⟨b, g, rfl, hst, hb1, hg1⟩ := hv2
    obtain ⟨hkb, hok⟩ : (0, bs).2 = kvB m ++ r ∧ KvOk m := takeK_ok ht
    simp only at hkb hr2 ⊢
    have ST2 := hide hst; have OK := hide hok; have KB := hide hkb; have R2 := hide hr2
    have hml : m.length ≤ 3000 := by have := kvB_len m; rw [hkb, List.length_append] at hbl; omega
    clear hst hok hkb hr2 h0 ht
    go_wp2_with fail
    refine (done_s w2 R2.out).mono ?_
    rintro e w3 ⟨rfl, hr3, hu3⟩
    have hRb : R < b ∧ R < g := by omega
    have ST3 := hide (ST2.out.upd hu3 (by simp; omega) (by simp; omega)); have U3 := hide (U2.out.trans_new hu3 (fun k hk => .inr (by have := KR.out; simp at hk; omega))); have E3 := hide (ENV.out.upd_nil U3.out)
    have hz3 := hu3.size
    by_cases hr0 : r.length = 0
    · obtain rfl : r = [] := List.eq_nil_of_length_eq_zero hr0
      have hd : (doneM (0, ([] : List UInt8))).1 = 0 := rfl
      rw [hd]
      have hbs : kvB m = bs := by have := KB.out; simpa using this.symm
      have HBS := hide hbs
      clear hd hr0 hr3 hu3 hu2 ST2 E2 R2 KB hbs
      go_wp2_with fail
      refine (kcopy_any w3 ST3.out OK.out (by omega)).mono ?_
      rintro e w4 ⟨⟨b4, g4, rfl, hs4, hb4, hg4⟩, hu4⟩
      have S4 := hide hs4; have ST4 := hide (ST3.out.upd_nil hu4); have U4 := hide (U3.out.trans hu4); have E4 := hide (E3.out.upd_nil hu4)
      have hz4 := hu4.size
      have hlb := blk_lt ST3.out.blk; have hlg := MapKind.is_lt ST3.out.map
      clear hs4 hu4 ST3 E3
      have hK := blk_new w4 (.cells #[.string ⟨#[110, 111, 32, 115, 117, 99, 104, 32, 107, 101, 121]⟩] 9)
      have hal := (Upd.refl [] w4).alloc (.cells #[.string ⟨#[110, 111, 32, 115, 117, 99, 104, 32, 107, 101, 121]⟩] 9)
      have hzs : (w4.alloc (.cells #[.string ⟨#[110, 111, 32, 115, 117, 99, 104, 32, 107, 101, 121]⟩] 9)).heap.size = w4.heap.size + 1 := by simp
      have HK := hide hK; have HAL := hide hal; have HZS := hide hzs
      have hl4 := blk_lt S4.out.blk; have hl5 := MapKind.is_lt S4.out.map
      clear hK hal hzs
      go_wp2_with fail
      refine (kstep (nsc_do m) (w4.alloc (.cells #[.string ⟨#[110, 111, 32, 115, 117, 99, 104, 32, 107, 101, 121]⟩] 9)) (E4.out.upd_nil HAL.out) (S4.out.upd_nil HAL.out) OK.out ⟨nsc_fits, _, rfl, strs_blk (l := [nsk]) HK.out rfl (by decide)⟩ (by omega)).mono ?_
      rintro e w5 ⟨rfl, hs5, hu5⟩
      have hu5' : Upd [g4] w4 w5 := (HAL.out.mono (by simp)).trans hu5
      have S5 := hide hs5; have ST5 := hide (ST4.out.upd hu5' (by simp; omega) (by simp; omega))
      have U5 := hide (U4.out.trans_new hu5' (fun k hk => .inr (by have := KR.out; simp at hk; omega)))
      have hz5 := hu5'.size
      clear hs5 hu5 hu5' HK HAL HZS S4 ST4 E4
      go_wp2_with fail
      refine (kget_any (k := nsk) w5 ST5.out (by decide)).mono ?_
      rintro e w6 ⟨rfl, rfl⟩
      obtain ⟨had, hhad⟩ : ∃ x, (mfind m nsk).isSome = x := ⟨_, rfl⟩
      obtain ⟨gv, hgv⟩ : ∃ x, strOf ((mfind m nsk).getD []) = x := ⟨_, rfl⟩
      rw [hhad, hgv]
      have HAD := hide hhad
      clear hhad hgv
      have s0 : Upd [] w5 (w5.drewN 1) := (Upd.refl _ _).drewN 1
      have E5 := hide (ENV.out.upd_nil U5.out)
      go_upto_region 12 with fail
      refine wp_region_z (fun wx => Upd [] w5 wx) 99 (by kernel_rfl) ?_
      refine wpAnyZ_takeE 0 rfl (by kernel_rfl) (by kernel_rfl) (by kernel_rfl) (by kernel_rfl) (fun _ _ _ _ h => h) rfl (by exact s0) ?_
      apply Exists.intro
      refine ⟨fun wx hS => ?_, ?_⟩
      · go_simp; rfl
      simp only [Act.put, List.setIfInBounds_toArray, List.set_cons_succ, List.set_cons_zero, List.getElem_toArray, List.getElem_cons_zero]
      refine wpAnyZ_takeE 3 rfl (by kernel_rfl) (by kernel_rfl) (by kernel_rfl) (by kernel_rfl) (fun _ _ _ _ h => h) rfl (by exact s0) ?_
      apply Exists.intro
      refine ⟨fun wx hS => ?_, ?_⟩
      · go_simp; rfl
      simp only [Act.put, List.setIfInBounds_toArray, List.set_cons_succ, List.set_cons_zero, List.getElem_toArray, List.getElem_cons_succ, List.getElem_cons_zero]
      refine wpAnyZ_takeE 4 rfl (by kernel_rfl) (by kernel_rfl) (by kernel_rfl) (by kernel_rfl) (fun _ _ _ _ h => h) rfl (by exact s0) ?_
      apply Exists.intro
      refine ⟨fun wx hS => ?_, ?_⟩
      · have hq := run_str (src_upd SRC.out (U5.out.trans hS) (by simp)); go_simp; rfl
      simp only [Act.put, List.setIfInBounds_toArray, List.set_cons_succ, List.set_cons_zero, List.getElem_toArray, List.getElem_cons_succ, List.getElem_cons_zero]
      refine wpAnyZ_one 1 (by kernel_rfl) rfl rfl (fun K hK => ?_)
      try simp only [List.getElem_toArray, List.getElem_cons_succ, List.getElem_cons_zero]
      go_simp
      refine (kput_any (base := w5.heap.size) (bs := []) (w5.drewN 1) (ST5.out.upd_nil s0) OK.out (by omega) (World.ownsRow_nil _ _ _ _) (Nat.le_refl _) (by simp) (by simp [Value.ownBlock]) (by simp [Value.ownBlock])).mono ?_
      rw [List.nil_append, HBS.out]
      rintro e w7 ⟨v7, rfl, h7⟩
      have hu7 : Upd [] w5 w7 := s0.trans (h7.upd.mono (by simp [Value.ownBlock]))
      obtain ⟨a7, c7, rfl, -, -, -⟩ := owns_slice h7.own
      have O7 := hide h7.own; have U57 := hide hu7; have U7 := hide (U5.out.trans hu7); have E7 := hide (E5.out.upd_nil hu7); have ST7 := hide (ST5.out.upd_nil hu7); have S7 := hide (S5.out.upd_nil hu7)
      have eqb : ((strOf bs).toList == (strOf bs).toList) = true := by simp
      clear h7
      refine hK _ _ (.inr hu7) ?_
      clear hK K
      try simp only [Act.put, List.setIfInBounds_toArray, List.set_cons_succ, List.set_cons_zero]
      clear s0
      have sS : Upd [] w7 w7 := Upd.refl _ _
      refine wpAnyZ_strong (S' := fun wx => Upd [] w7 wx) (fun wx h => U57.out.trans h) _ _ _ _ ?_
      refine wpAnyZ_takeE 2 rfl (by kernel_rfl) (by kernel_rfl) (by kernel_rfl) (by kernel_rfl) (fun _ _ _ _ h => h) rfl (by exact sS) ?_
      apply Exists.intro
      refine ⟨fun wx hS => ?_, ?_⟩
      · have hq := run_str (src_own (owns_upd O7.out hS (by simp)) (by simp [u8v, Value.oneCell'])) ; rw [hlen] at hq; go_simp; rfl
      simp only [Act.put, List.setIfInBounds_toArray, List.set_cons_succ, List.set_cons_zero, List.getElem_toArray, List.getElem_cons_succ, List.getElem_cons_zero]
      refine wpAnyZ_takeE 5 rfl (by kernel_rfl) (by kernel_rfl) (by kernel_rfl) (by kernel_rfl) (fun _ _ _ _ h => h) rfl (by exact sS) ?_
      apply Exists.intro
      refine ⟨fun wx hS => ?_, ?_⟩
      · go_simp; rfl
      simp only [Act.put, List.setIfInBounds_toArray, List.set_cons_succ, List.set_cons_zero, List.getElem_toArray, List.getElem_cons_succ, List.getElem_cons_zero]
      refine wpAnyZ_takeE 6 rfl (by kernel_rfl) (by kernel_rfl) (by kernel_rfl) (by kernel_rfl) (fun _ _ _ _ h => h) rfl (by exact sS) ?_
      apply Exists.intro
      refine ⟨fun wx hS => ?_, ?_⟩
      · go_simp; rfl
      simp only [Act.put, List.setIfInBounds_toArray, List.set_cons_succ, List.set_cons_zero, List.getElem_toArray, List.getElem_cons_succ, List.getElem_cons_zero]
      cases had with
      | true =>
        refine wpAnyZ_takeE 7 rfl (by kernel_rfl) (by kernel_rfl) (by kernel_rfl) (by kernel_rfl) (fun _ _ _ _ h => h) rfl (by exact sS) ?_
        apply Exists.intro
        refine ⟨fun wx hS => ?_, ?_⟩
        · go_simp; rfl
        simp only [Act.put, List.setIfInBounds_toArray, List.set_cons_succ, List.set_cons_zero, List.getElem_toArray, List.getElem_cons_succ, List.getElem_cons_zero]
        refine wpAnyZ_takeE 8 rfl (by kernel_rfl) (by kernel_rfl) (by kernel_rfl) (by kernel_rfl) (fun _ _ _ _ h => h) rfl (by exact sS) ?_
        apply Exists.intro
        refine ⟨fun wx hS => ?_, ?_⟩
        · go_simp; rfl
        simp only [Act.put, List.setIfInBounds_toArray, List.set_cons_succ, List.set_cons_zero, List.getElem_toArray, List.getElem_cons_succ, List.getElem_cons_zero]
        refine wpAnyZ_skipE 9 rfl (by kernel_rfl) (by kernel_rfl) (by kernel_rfl) (by kernel_rfl) (fun _ _ _ h => h) rfl (by exact sS) ?_
        simp only [Act.put, List.setIfInBounds_toArray, List.set_cons_succ, List.set_cons_zero]
        refine wpAnyZ_skipE 10 rfl (by kernel_rfl) (by kernel_rfl) (by kernel_rfl) (by kernel_rfl) (fun _ _ _ h => h) rfl (by exact sS) ?_
        simp only [Act.put, List.setIfInBounds_toArray, List.set_cons_succ, List.set_cons_zero]
        refine wpAnyZ_skipE 11 rfl (by kernel_rfl) (by kernel_rfl) (by kernel_rfl) (by kernel_rfl) (fun _ _ _ h => h) rfl (by exact sS) ?_
        simp only [Act.put, List.setIfInBounds_toArray, List.set_cons_succ, List.set_cons_zero]
        refine wpAnyZ_skipE 12 rfl (by kernel_rfl) (by kernel_rfl) (by kernel_rfl) (by kernel_rfl) (fun _ _ _ h => h) rfl (by exact sS) ?_
        simp only [Act.put, List.setIfInBounds_toArray, List.set_cons_succ, List.set_cons_zero]
        refine wpAnyZ_takeE 13 rfl (by kernel_rfl) (by kernel_rfl) (by kernel_rfl) (by kernel_rfl) (fun _ _ _ _ h => h) rfl (by exact sS) ?_
        apply Exists.intro
        refine ⟨fun wx hS => ?_, ?_⟩
        · go_simp; rfl
        simp only [Act.put, List.setIfInBounds_toArray, List.set_cons_succ, List.set_cons_zero, List.getElem_toArray, List.getElem_cons_succ, List.getElem_cons_zero]
        refine wpAnyZ_takeE 14 rfl (by kernel_rfl) (by kernel_rfl) (by kernel_rfl) (by kernel_rfl) (fun _ _ _ _ h => h) rfl (by exact sS) ?_
        apply Exists.intro
        refine ⟨fun wx hS => ?_, ?_⟩
        · go_simp; rfl
        simp only [Act.put, List.setIfInBounds_toArray, List.set_cons_succ, List.set_cons_zero, List.getElem_toArray, List.getElem_cons_succ, List.getElem_cons_zero]
        refine wpAnyZ_takeE 15 rfl (by kernel_rfl) (by kernel_rfl) (by kernel_rfl) (by kernel_rfl) (fun _ _ _ _ h => h) rfl (by exact sS) ?_
        apply Exists.intro
        refine ⟨fun wx hS => ?_, ?_⟩
        · go_simp; rfl
        simp only [Act.put, List.setIfInBounds_toArray, List.set_cons_succ, List.set_cons_zero, List.getElem_toArray, List.getElem_cons_succ, List.getElem_cons_zero]
        refine wpAnyZ_one 16 (by kernel_rfl) rfl rfl (fun K hK => ?_)
        try simp only [List.getElem_toArray, List.getElem_cons_succ, List.getElem_cons_zero]
        go_simp
        refine (wakes9_any _ (E7.out.upd_nil sS)).mono ?_
        rintro e w9 ⟨rfl, hu9⟩
        have s9 := sS.trans hu9
        refine hK _ _ (.inr s9) ?_
        clear hK K
        try simp only [Act.put, List.setIfInBounds_toArray, List.set_cons_succ, List.set_cons_zero]
        refine wpAnyZ_takeE 17 rfl (by kernel_rfl) (by kernel_rfl) (by kernel_rfl) (by kernel_rfl) (fun _ _ _ _ h => h) rfl (by exact s9) ?_
        apply Exists.intro
        refine ⟨fun wx hS => ?_, ?_⟩
        · go_simp; rfl
        simp only [Act.put, List.setIfInBounds_toArray, List.set_cons_succ, List.set_cons_zero, List.getElem_toArray, List.getElem_cons_succ, List.getElem_cons_zero]
        refine wpAnyZ_takeE 18 rfl (by kernel_rfl) (by kernel_rfl) (by kernel_rfl) (by kernel_rfl) (fun _ _ _ _ h => h) rfl (by exact s9) ?_
        apply Exists.intro
        refine ⟨fun wx hS => ?_, ?_⟩
        · go_simp; rfl
        simp only [Act.put, List.setIfInBounds_toArray, List.set_cons_succ, List.set_cons_zero, List.getElem_toArray, List.getElem_cons_succ, List.getElem_cons_zero]
        refine wpAnyZ_done (by kernel_rfl) ?_ _
        have U9 := hide (U7.out.trans s9)
        clear s9 hu9
        go_wp2_with fail
        go_ret
        exact ⟨rfl, U9.out⟩
      | false =>
        refine wpAnyZ_takeE 7 rfl (by kernel_rfl) (by kernel_rfl) (by kernel_rfl) (by kernel_rfl) (fun _ _ _ _ h => h) rfl (by exact sS) ?_
        apply Exists.intro
        refine ⟨fun wx hS => ?_, ?_⟩
        · go_simp; rfl
        simp only [Act.put, List.setIfInBounds_toArray, List.set_cons_succ, List.set_cons_zero, List.getElem_toArray, List.getElem_cons_succ, List.getElem_cons_zero]
        refine wpAnyZ_takeE 8 rfl (by kernel_rfl) (by kernel_rfl) (by kernel_rfl) (by kernel_rfl) (fun _ _ _ _ h => h) rfl (by exact sS) ?_
        apply Exists.intro
        refine ⟨fun wx hS => ?_, ?_⟩
        · go_simp; rfl
        simp only [Act.put, List.setIfInBounds_toArray, List.set_cons_succ, List.set_cons_zero, List.getElem_toArray, List.getElem_cons_succ, List.getElem_cons_zero]
        refine wpAnyZ_takeE 9 rfl (by kernel_rfl) (by kernel_rfl) (by kernel_rfl) (by kernel_rfl) (fun _ _ _ _ h => h) rfl (by exact sS) ?_
        apply Exists.intro
        refine ⟨fun wx hS => ?_, ?_⟩
        · go_simp; rfl
        simp only [Act.put, List.setIfInBounds_toArray, List.set_cons_succ, List.set_cons_zero, List.getElem_toArray, List.getElem_cons_succ, List.getElem_cons_zero]
        refine wpAnyZ_takeE 10 rfl (by kernel_rfl) (by kernel_rfl) (by kernel_rfl) (by kernel_rfl) (fun _ _ _ _ h => h) rfl (by exact sS) ?_
        apply Exists.intro
        refine ⟨fun wx hS => ?_, ?_⟩
        · go_simp; rfl
        simp only [Act.put, List.setIfInBounds_toArray, List.set_cons_succ, List.set_cons_zero, List.getElem_toArray, List.getElem_cons_succ, List.getElem_cons_zero]
        refine wpAnyZ_one 11 (by kernel_rfl) rfl rfl (fun K hK => ?_)
        try simp only [List.getElem_toArray, List.getElem_cons_succ, List.getElem_cons_zero]
        go_simp
        refine (ksame_any w7 ST7.out S7.out OK.out (KvOk.put OK.out (by decide) (by decide)) (by omega)).mono ?_
        have hdf : decide (m = mput strK m nsk [120]) = false := by
          rw [decide_eq_false_iff_not]
          have hn : mfind m nsk = none := by
            have := HAD.out
            cases hx : mfind m nsk with
            | none => rfl
            | some v => rw [hx] at this; cases this
          exact fun e => put_other hn e.symm
        rw [hdf]
        rintro e w8 ⟨rfl, hu8⟩
        refine hK _ _ (.inr hu8) ?_
        clear hK K
        try simp only [Act.put, List.setIfInBounds_toArray, List.set_cons_succ, List.set_cons_zero]
        clear sS
        have sS := hu8
        refine wpAnyZ_takeE 12 rfl (by kernel_rfl) (by kernel_rfl) (by kernel_rfl) (by kernel_rfl) (fun _ _ _ _ h => h) rfl (by exact sS) ?_
        apply Exists.intro
        refine ⟨fun wx hS => ?_, ?_⟩
        · go_simp; rfl
        simp only [Act.put, List.setIfInBounds_toArray, List.set_cons_succ, List.set_cons_zero, List.getElem_toArray, List.getElem_cons_succ, List.getElem_cons_zero]
        refine wpAnyZ_takeE 13 rfl (by kernel_rfl) (by kernel_rfl) (by kernel_rfl) (by kernel_rfl) (fun _ _ _ _ h => h) rfl (by exact sS) ?_
        apply Exists.intro
        refine ⟨fun wx hS => ?_, ?_⟩
        · go_simp; rfl
        simp only [Act.put, List.setIfInBounds_toArray, List.set_cons_succ, List.set_cons_zero, List.getElem_toArray, List.getElem_cons_succ, List.getElem_cons_zero]
        refine wpAnyZ_takeE 14 rfl (by kernel_rfl) (by kernel_rfl) (by kernel_rfl) (by kernel_rfl) (fun _ _ _ _ h => h) rfl (by exact sS) ?_
        apply Exists.intro
        refine ⟨fun wx hS => ?_, ?_⟩
        · go_simp; rfl
        simp only [Act.put, List.setIfInBounds_toArray, List.set_cons_succ, List.set_cons_zero, List.getElem_toArray, List.getElem_cons_succ, List.getElem_cons_zero]
        refine wpAnyZ_takeE 15 rfl (by kernel_rfl) (by kernel_rfl) (by kernel_rfl) (by kernel_rfl) (fun _ _ _ _ h => h) rfl (by exact sS) ?_
        apply Exists.intro
        refine ⟨fun wx hS => ?_, ?_⟩
        · go_simp; rfl
        simp only [Act.put, List.setIfInBounds_toArray, List.set_cons_succ, List.set_cons_zero, List.getElem_toArray, List.getElem_cons_succ, List.getElem_cons_zero]
        refine wpAnyZ_one 16 (by kernel_rfl) rfl rfl (fun K hK => ?_)
        try simp only [List.getElem_toArray, List.getElem_cons_succ, List.getElem_cons_zero]
        go_simp
        refine (wakes9_any _ (E7.out.upd_nil sS)).mono ?_
        rintro e w9 ⟨rfl, hu9⟩
        have s9 := sS.trans hu9
        refine hK _ _ (.inr s9) ?_
        clear hK K
        try simp only [Act.put, List.setIfInBounds_toArray, List.set_cons_succ, List.set_cons_zero]
        refine wpAnyZ_takeE 17 rfl (by kernel_rfl) (by kernel_rfl) (by kernel_rfl) (by kernel_rfl) (fun _ _ _ _ h => h) rfl (by exact s9) ?_
        apply Exists.intro
        refine ⟨fun wx hS => ?_, ?_⟩
        · go_simp; rfl
        simp only [Act.put, List.setIfInBounds_toArray, List.set_cons_succ, List.set_cons_zero, List.getElem_toArray, List.getElem_cons_succ, List.getElem_cons_zero]
        refine wpAnyZ_takeE 18 rfl (by kernel_rfl) (by kernel_rfl) (by kernel_rfl) (by kernel_rfl) (fun _ _ _ _ h => h) rfl (by exact s9) ?_
        apply Exists.intro
        refine ⟨fun wx hS => ?_, ?_⟩
        · go_simp; rfl
        simp only [Act.put, List.setIfInBounds_toArray, List.set_cons_succ, List.set_cons_zero, List.getElem_toArray, List.getElem_cons_succ, List.getElem_cons_zero]
        refine wpAnyZ_done (by kernel_rfl) ?_ _
        have U9 := hide (U7.out.trans s9)
        clear s9 hu9
        go_wp2_with fail
        go_ret
        exact ⟨rfl, U9.out⟩
    · have hd : (doneM (0, r)).1 = 11 := by unfold doneM; simp only [ne_eq, not_true_eq_false, if_false, hr0, not_false_eq_true, if_true]
      rw [hd]
      clear hd hr0 hr3 hu3 hu2
      go_wp2_with fail
      refine (wakes9_any w3 E3.out).mono ?_
      rintro e w4 ⟨rfl, hu⟩
      have U4 := hide (U3.out.trans hu)
      clear hu
      go_wp2_with fail
      go_ret
      exact ⟨rfl, U4.out⟩
  · obtain ⟨hno, hbad⟩ := takeK_bad (s := (0, bs)) (.inl rfl) h0
    rw [hno] at hv2
    obtain rfl : v2 = .pointer none := hv2
    obtain ⟨e2, he2⟩ : ∃ e, (takeK 64 (0, bs)).2.1 = e := ⟨_, rfl⟩
    rw [he2] at hbad h0 ⊢
    have q1 : (e2 != 0) = true := by simpa using h0
    clear hr2 he2 hno h0 hu2
    rcases hbad with rfl | rfl
    · go_wp2_with fail
      refine (wakes9_any w2 E2.out).mono ?_
      rintro e w3 ⟨rfl, hu⟩
      have U3 := hide (U2.out.trans hu)
      clear hu
      go_wp2_with fail
      go_ret
      exact ⟨rfl, U3.out⟩
    · go_wp2_with fail
      refine (wakes9_any w2 E2.out).mono ?_
      rintro e w3 ⟨rfl, hu⟩
      have U3 := hide (U2.out.trans hu)
      clear hu
      go_wp2_with fail
      go_ret
      exact ⟨rfl, U3.out⟩
end Go.Proofs.YtcjflnnjieolfaaDoor.Kv
