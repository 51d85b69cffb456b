/- KvCS, KvCT in one text. -/
import Derived.Test.YthpnnffogbjhpaaGreatDoorGenAll
import Derived.Test.YthpnnffogbjhpaaGreatDoorKvS
set_option linter.unusedSimpArgs false
set_option linter.unusedVariables false
set_option linter.unnecessarySimpa false
namespace Go.Proofs.YthpnnffogbjhpaaGreatDoor.Kv
set_option linter.unusedSimpArgs false
set_option linter.unusedVariables false
open Go.RowKit Go.Lib Go.Proofs.YthpnnffogbjhpaaGreatDoor.Crc Go.Proofs.YthpnnffogbjhpaaGreatDoor.Cm

set_option maxHeartbeats 2000000 in
theorem copyS_any {gd gs : Nat} {l : KM} (w : World) (hd : kvK.is w gd []) (hs : kvK.is w gs l) (hne : gd ≠ gs) (hr : Rise kvK.K l) (hok : ∀ p ∈ l, kvK.okk p.1 ∧ kvK.oke p.2) (hl : l.length ≤ 1000000) :
    Calls Tryz.prog 78 #[.map (some gd), .map (some gs)] w fun e w' => e = .returned (.tuple #[]) ∧ kvK.is w' gd l ∧ Upd [gd] w w' := by
  have hld := MapKind.is_lt hd
  have hls := MapKind.is_lt hs
  have HR := hide hr; have HOK := hide hok; have HD := hide hd
  clear hr hok hd
  go_enter Tryz.func78, Tryz.ntmps78
  go_wp2_with (first
    | (at_range; refine wpList_range_map (M := kvK) _ rfl _ rfl rfl hs ?_; intro w0 hrg0 hg0 hs0)
    | go_in)
  go_frame
  go_loopw [8] (fun _ wr => ∃ (left : Lit → Bool) (cnt : Nat) (q : KM), kvK.rng wr gs w.heap.size l left cnt ∧ kvK.is wr gd q ∧ q.length + cnt ≤ l.length ∧ Rise kvK.K q ∧ (∀ k, mfind q k = if left (kvK.K.lit k) = true then none else mfind l k) ∧ Upd [gd] w wr ∧ w.heap.size < wr.heap.size) (fun _ wr => wr.rangeLeft gs w.heap.size)
  case atStart =>
    refine ⟨_, _, [], hrg0, MapKind.is_upd_nil HD.out hg0, by simp, rise_nil, fun k => ?_, hg0.mono (by simp), by omega⟩
    rw [toD_has, mfind_nil]
    cases mfind l k <;> simp
  case round =>
    obtain ⟨left, cnt, q, hrg, hq, hql, hqr, hqf, hgw, hzw⟩ := hrel
    have QR := hide hqr; have QF := hide hqf; have GW := hide hgw; have QQ := hide hq
    clear hqr hqf hgw hq
    go_wp2_with (first
      | (at_next; refine wpList_next_map (M := kvK) _ rfl _ rfl rfl hrg (fun p hp => (HOK.out p hp).1) ?_ ?_)
      | go_in)
    · intro hc0 hl0
      go_wp2
      go_end0
      have e : q = l := rise_ext QR.out HR.out fun k => by rw [QF.out k, hl0]; simp
      subst e
      exact ⟨rfl, QQ.out, GW.out⟩
    · intro k v w1 cnt1 hlk hv hrg1 hlt hu1 hs1 hen
      have hz : w.heap.size ∉ [gd] := by simp; omega
      obtain ⟨wa, hwa, hua, hsa⟩ : ∃ wa, wa = w1 ∧ Upd [] w1 wa ∧ w1.heap.size ≤ wa.heap.size := ⟨_, rfl, Upd.refl _ _, Nat.le_refl _⟩
      have hq1 := MapKind.is_upd_nil (MapKind.is_upd QQ.out hu1 (by simp; omega)) hua
      obtain ⟨w2, hr2, hm2, hu2⟩ := MapKind.store hq1 (k := k) (v := v) (by obtain ⟨u, hu⟩ : ∃ u, (k, u) ∈ l := ⟨v, mfind_mem hv⟩; exact (HOK.out _ hu).1) ((HOK.out _ (mfind_mem hv)).2) (by unfold maxLen; omega)
      have hr2' : (Instr.mapUpdate 113 (.map (some gd)) ((fun s => Value.string (strOf s)) k) ((fun s => Value.string (strOf s)) v)).run Tryz.prog wa = .ok () w2 := hr2
      have hen' : (Instr.entry (.pointer (some ⟨w.heap.size, 0, none⟩))).run Tryz.prog w1 = .ok (.tuple #[(fun s => Value.string (strOf s)) k, (fun s => Value.string (strOf s)) v]) w1 := hen
      have hrg2 := MapKind.rng_upd (MapKind.rng_upd hrg1 hua (by simp) (by simp)) hu2 (by simpa using fun e => hne e.symm) hz
      have hpl := len_put_le (K := kvK.K) (l := q) (k := k) (v := v)
      have hf2 : ∀ j, mfind (mput kvK.K q k v) j = if ((fun z => left z && !z.sameKey (kvK.K.lit k)) (kvK.K.lit j)) = true then none else mfind l j := fun j => by
        rw [mfind_put]
        simp only [Kys.same]
        by_cases hjk : j = k
        · subst hjk
          simp [hv]
        · rw [if_neg hjk, QF.out j]
          simp [hjk]
      have HF := hide hf2; have RG2 := hide hrg2; have M2 := hide hm2; have U2 := hide (((GW.out.trans_new hu1 (fun g hg => .inr (by simp at hg; omega))).trans (hua.mono (by simp))).trans hu2); have RP := hide (rise_put (k := k) (v := v) QR.out)
      have hz2 := hu2.size
      have hcnt := MapKind.rng_cnt hrg
      have hcnt2 := MapKind.rng_cnt hrg2
      clear hr2 hen hf2 hrg1 hrg2 hm2 hu2 hu1 hrg hq1 hua
      subst hwa
      go_wp2_with fail
      go_roundw
      case rel => exact ⟨_, cnt1, _, RG2.out, M2.out, by omega, RP.out, HF.out, U2.out, by omega⟩
      case measure => rw [hcnt, hcnt2]; exact hlt
end Go.Proofs.YthpnnffogbjhpaaGreatDoor.Kv
namespace Go.Proofs.YthpnnffogbjhpaaGreatDoor.Kv
set_option linter.unusedSimpArgs false
set_option linter.unusedVariables false
open Go.RowKit Go.Lib Go.Proofs.YthpnnffogbjhpaaGreatDoor.Crc Go.Proofs.YthpnnffogbjhpaaGreatDoor.Cm

set_option maxHeartbeats 2000000 in
theorem copyT_any {gd gs : Nat} {l : TM} (w : World) (hd : tbK.is w gd []) (hs : tbK.is w gs l) (hne : gd ≠ gs) (hr : Rise tbK.K l) (hok : ∀ p ∈ l, tbK.okk p.1 ∧ tbK.oke p.2) (hl : l.length ≤ 1000000) :
    Calls Tryz.prog 89 #[.map (some gd), .map (some gs)] w fun e w' => e = .returned (.tuple #[]) ∧ tbK.is w' gd l ∧ Upd [gd] w w' := by
  have hld := MapKind.is_lt hd
  have hls := MapKind.is_lt hs
  have HR := hide hr; have HOK := hide hok; have HD := hide hd
  clear hr hok hd
  go_enter Tryz.func89, Tryz.ntmps89
  go_wp2_with (first
    | (at_range; refine wpList_range_map (M := tbK) _ rfl _ rfl rfl hs ?_; intro w0 hrg0 hg0 hs0)
    | go_in)
  go_frame
  go_loopw [8] (fun _ wr => ∃ (left : Lit → Bool) (cnt : Nat) (q : TM), tbK.rng wr gs w.heap.size l left cnt ∧ tbK.is wr gd q ∧ q.length + cnt ≤ l.length ∧ Rise tbK.K q ∧ (∀ k, mfind q k = if left (tbK.K.lit k) = true then none else mfind l k) ∧ Upd [gd] w wr ∧ w.heap.size < wr.heap.size) (fun _ wr => wr.rangeLeft gs w.heap.size)
  case atStart =>
    refine ⟨_, _, [], hrg0, MapKind.is_upd_nil HD.out hg0, by simp, rise_nil, fun k => ?_, hg0.mono (by simp), by omega⟩
    rw [toD_has, mfind_nil]
    cases mfind l k <;> simp
  case round =>
    obtain ⟨left, cnt, q, hrg, hq, hql, hqr, hqf, hgw, hzw⟩ := hrel
    have QR := hide hqr; have QF := hide hqf; have GW := hide hgw; have QQ := hide hq
    clear hqr hqf hgw hq
    go_wp2_with (first
      | (at_next; refine wpList_next_map (M := tbK) _ rfl _ rfl rfl hrg (fun p hp => (HOK.out p hp).1) ?_ ?_)
      | go_in)
    · intro hc0 hl0
      go_wp2
      go_end0
      have e : q = l := rise_ext QR.out HR.out fun k => by rw [QF.out k, hl0]; simp
      subst e
      exact ⟨rfl, QQ.out, GW.out⟩
    · intro k v w1 cnt1 hlk hv hrg1 hlt hu1 hs1 hen
      have hz : w.heap.size ∉ [gd] := by simp; omega
      obtain ⟨wa, hwa, hua, hsa⟩ : ∃ wa, wa = w1.alloc (.cells #[.int .u32 (v.seq : Int), .int .u8 (v.r.code : Int), .string (strOf v.r.text)] 104) ∧ Upd [] w1 wa ∧ w1.heap.size ≤ wa.heap.size := ⟨_, rfl, (Upd.refl _ _).alloc _, by simp⟩
      have hq1 := MapKind.is_upd_nil (MapKind.is_upd QQ.out hu1 (by simp; omega)) hua
      obtain ⟨w2, hr2, hm2, hu2⟩ := MapKind.store hq1 (k := k) (v := v) (by obtain ⟨u, hu⟩ : ∃ u, (k, u) ∈ l := ⟨v, mfind_mem hv⟩; exact (HOK.out _ hu).1) ((HOK.out _ (mfind_mem hv)).2) (by unfold maxLen; omega)
      have hr2' : (Instr.mapUpdate 108 (.map (some gd)) ((fun n : Nat => Value.int .u32 (n : Int)) k) ((fun v : La => Value.agg #[.int .u32 (v.seq : Int), .int .u8 (v.r.code : Int), .string (strOf v.r.text)]) v)).run Tryz.prog wa = .ok () w2 := hr2
      have hen' : (Instr.entry (.pointer (some ⟨w.heap.size, 0, none⟩))).run Tryz.prog w1 = .ok (.tuple #[(fun n : Nat => Value.int .u32 (n : Int)) k, (fun v : La => Value.agg #[.int .u32 (v.seq : Int), .int .u8 (v.r.code : Int), .string (strOf v.r.text)]) v]) w1 := hen
      have hrg2 := MapKind.rng_upd (MapKind.rng_upd hrg1 hua (by simp) (by simp)) hu2 (by simpa using fun e => hne e.symm) hz
      have hpl := len_put_le (K := tbK.K) (l := q) (k := k) (v := v)
      have hf2 : ∀ j, mfind (mput tbK.K q k v) j = if ((fun z => left z && !z.sameKey (tbK.K.lit k)) (tbK.K.lit j)) = true then none else mfind l j := fun j => by
        rw [mfind_put]
        simp only [Kys.same]
        by_cases hjk : j = k
        · subst hjk
          simp [hv]
        · rw [if_neg hjk, QF.out j]
          simp [hjk]
      have HF := hide hf2; have RG2 := hide hrg2; have M2 := hide hm2; have U2 := hide (((GW.out.trans_new hu1 (fun g hg => .inr (by simp at hg; omega))).trans (hua.mono (by simp))).trans hu2); have RP := hide (rise_put (k := k) (v := v) QR.out)
      have hz2 := hu2.size
      have hcnt := MapKind.rng_cnt hrg
      have hcnt2 := MapKind.rng_cnt hrg2
      clear hr2 hen hf2 hrg1 hrg2 hm2 hu2 hu1 hrg hq1 hua
      subst hwa
      go_wp2_with fail
      go_roundw
      case rel => exact ⟨_, cnt1, _, RG2.out, M2.out, by omega, RP.out, HF.out, U2.out, by omega⟩
      case measure => rw [hcnt, hcnt2]; exact hlt
end Go.Proofs.YthpnnffogbjhpaaGreatDoor.Kv
