/- MpR, KvCS, KvCT in one text. -/
import Derived.Test.YtanjnhohfcgapaaGreatDoorGenAll
import Derived.Test.YtanjnhohfcgapaaGreatDoorKvS
set_option linter.unusedSimpArgs false
set_option linter.unusedVariables false
set_option linter.unnecessarySimpa false
namespace Go.Proofs.YtanjnhohfcgapaaGreatDoor
open Go.RowKit Go.ChangeMaps Go.WideShapes

section
variable {P : Program} {κ α : Type} {M : MapKind P κ α} {w w' : World} {g r n : Nat} {l : List (κ × α)} {left : Lit → Bool} {cnt : Nat}
/-- A range over map g under way, its iterator at r: what is left of it. -/
def MapKind.rng (M : MapKind P κ α) (w : World) (g r : Nat) (l : List (κ × α)) (left : Lit → Bool) (cnt : Nat) : Prop := w.ranges P M.kt M.R g r l.length (toD M.K M.dat l) left cnt
theorem mfind_of_mem [DecidableEq κ] {p : κ × α} (h : p ∈ l) : ∃ v, mfind l p.1 = some v := by
  induction l with
  | nil => cases h
  | cons y t ih =>
    rw [mfind_cons]
    by_cases e : y.1 = p.1
    · exact ⟨_, by rw [if_pos e]⟩
    · rw [if_neg e]
      rcases List.mem_cons.1 h with rfl | h
      · exact absurd rfl e
      · exact ih h
theorem MapKind.rng_left [DecidableEq κ] (h : M.rng w g r l left cnt) {kl : Lit} (hk : left kl = true) : ∃ k v, kl = M.K.lit k ∧ mfind l k = some v ∧ ∃ q ∈ l, q.1 = k := by
  obtain ⟨es, clock, since, seen, c0, -, -, -, hD, -, -, -, -, hl, -, -⟩ := h
  obtain ⟨x, hx, hkl⟩ := hl kl hk
  have hm : WideElems.rg P M.kt M.R x ∈ (es.toList.map (WideElems.rg P M.kt M.R)).foldr DataW.insert [] := Go.mem_sorted.2 (List.mem_map.2 ⟨x, hx, rfl⟩)
  have hD' : l.map (fun p => (M.K.lit p.1, M.dat p.2)) = (es.toList.map (WideElems.rg P M.kt M.R)).foldr DataW.insert [] := by
    unfold toD at hD
    exact DataW.map.inj hD
  rw [← hD'] at hm
  obtain ⟨p, hp, he⟩ := List.mem_map.1 hm
  obtain ⟨v, hv⟩ := mfind_of_mem hp
  refine ⟨p.1, v, ?_, hv, p, hp, rfl⟩
  rw [← hkl, ← he]
theorem MapKind.rng_is (h : M.rng w g r l left cnt) : M.is w g l := World.ranges.owns h
theorem MapKind.rng_ne (h : M.rng w g r l left cnt) : r ≠ g := World.ranges.ne h
theorem grown_of_upd {S : List Nat} (hu : Upd S w w') {row : Option Nat} (hr : ∀ k ∈ S, row = some k) : w.grownBy w' row :=
  ⟨hu.os, hu.tape, hu.output, hu.size, fun k hk hne => hu.block k hk fun hm => hne (hr k hm).symm⟩
theorem MapKind.rng_upd {S : List Nat} (h : M.rng w g r l left cnt) (hu : Upd S w w') (hg : g ∉ S) (hr : r ∉ S) : M.rng w' g r l left cnt := by
  have hlg := MapKind.is_lt (MapKind.rng_is h)
  have hlr : r < w.heap.size := World.ranges.lt h
  obtain ⟨es, clock, since, seen, c0, h1, h2, h3, h4, h5, h6⟩ := h
  exact ⟨es, clock, since, seen, c0, (hu.block g hlg hg).trans h1, h2, h3, h4, (hu.block r hlr hr).trans h5, h6⟩
theorem MapKind.rng_cnt (h : M.rng w g r l left cnt) : w.rangeLeft g r = cnt := World.ranges.left_eq h
theorem upd_none (h : w.grownBy w' none) : Upd [] w w' := Upd.of_grownBy h fun k e => by cases e
section
variable (w) {ops : Array Oper} {rest : List Oper} {o : Oper} {a : Act} {Q : Exit → Act → World → Prop}
theorem wpList_range_map (hg : o.guard = none) (m : Operand) (hop : o.op = Op.range M.t m) (hm : a.eval m = .map (some g)) (h : M.is w g l)
    (hK : ∀ w', M.rng w' g w.heap.size l (Maps.has (toD M.K M.dat l)) l.length → Upd [] w w' → w'.heap.size = w.heap.size + 1 → wpList P ops Q rest (a.put o.dst (.pointer (some ⟨w.heap.size, 0, none⟩))) w') :
    wpList P ops Q (o :: rest) a w :=
  wpList_range_own w hg m M.t hop M.kt M.et M.keyed M.ht M.R g l.length (toD M.K M.dat l) hm h fun w' h1 h2 h3 => hK w' (by rw [toD_size] at h1; exact h1) (upd_none h2) h3
theorem wpList_next_map [DecidableEq κ] (hg : o.guard = none) (it : Operand) (hop : o.op = Op.next it false) (hit : a.eval it = .pointer (some ⟨r, 0, none⟩)) (h : M.rng w g r l left cnt) (hok : ∀ p ∈ l, M.okk p.1)
    (hDone : cnt = 0 → (∀ kl, left kl = false) → wpList P ops Q rest (a.put o.dst (.tuple #[.bool false])) w)
    (hMore : ∀ (k : κ) (v : α) (w' : World) (cnt' : Nat), left (M.K.lit k) = true → mfind l k = some v → M.rng w' g r l (fun z => left z && !z.sameKey (M.K.lit k)) cnt' → cnt' < cnt → Upd [r] w w' → w'.heap.size = w.heap.size →
      (Instr.entry (.pointer (some ⟨r, 0, none⟩))).run P w' = .ok (.tuple #[M.kv k, M.ev v]) w' → wpList P ops Q rest (a.put o.dst (.tuple #[.bool true, M.kv k, M.ev v])) w') :
    wpList P ops Q (o :: rest) a w :=
  wpList_next_ranges w hg it hop M.kt M.keyed M.R id id (fun key _ _ => ⟨key, rfl⟩) (fun v _ _ => ⟨v, rfl⟩) g r l.length (toD M.K M.dat l) left cnt hit h hDone fun x c kl y w' cnt' hkey hl hR hat hrg hlt hgr hsz hen => by
    obtain ⟨k, v, rfl, hv, q, hq, rfl⟩ := MapKind.rng_left h hl
    have hx : x = M.kv q.1 := M.keyed.inj hkey (M.hkey (hok q hq))
    have hy := hat (M.dat M.z)
    rw [toD_at, hv] at hy
    have hc : c = M.ev v := M.inv (ps := y.2) (by rw [show id c = c from rfl] at hR; rw [hR]; show some y = some (M.dat v, y.2); rw [show M.dat v = y.1 from hy])
    subst hx; subst hc
    exact hMore q.1 v w' cnt' hl hv hrg hlt (upd_of_grownRow hgr) hsz hen
end
end
end Go.Proofs.YtanjnhohfcgapaaGreatDoor
namespace Go.Proofs.YtanjnhohfcgapaaGreatDoor.Kv
set_option linter.unusedSimpArgs false
set_option linter.unusedVariables false
open Go.RowKit Go.Lib Go.Proofs.YtanjnhohfcgapaaGreatDoor.Crc Go.Proofs.YtanjnhohfcgapaaGreatDoor.Cm

set_option maxHeartbeats 2000000 in
theorem copyS_any {gd gs : Nat} {l : KM} (w : World) (hd : kvK.is w gd []) (hs : kvK.is w gs l) (hne : gd ≠ gs) (hr : Rise kvK.K l) (hok : ∀ p ∈ l, kvK.okk p.1 ∧ kvK.oke p.2) (hl : l.length ≤ 1000000) :
    Calls Tryz.prog 160 #[.map (some gd), .map (some gs)] w fun e w' => e = .returned (.tuple #[]) ∧ kvK.is w' gd l ∧ Upd [gd] w w' := by
  have hld := MapKind.is_lt hd
  have hls := MapKind.is_lt hs
  have HR := hide hr; have HOK := hide hok; have HD := hide hd
  clear hr hok hd
  go_enter Tryz.func160, Tryz.ntmps160
  go_wp2_with (first
    | (at_range; refine wpList_range_map (M := kvK) _ rfl _ rfl rfl hs ?_; intro w0 hrg0 hg0 hs0)
    | go_in)
  go_frame
  go_loopw [8] (fun _ wr => ∃ (left : Lit → Bool) (cnt : Nat) (q : KM), kvK.rng wr gs w.heap.size l left cnt ∧ kvK.is wr gd q ∧ q.length + cnt ≤ l.length ∧ Rise kvK.K q ∧ (∀ k, mfind q k = if left (kvK.K.lit k) = true then none else mfind l k) ∧ Upd [gd] w wr ∧ w.heap.size < wr.heap.size) (fun _ wr => wr.rangeLeft gs w.heap.size)
  case atStart =>
    refine ⟨_, _, [], hrg0, MapKind.is_upd_nil HD.out hg0, by simp, rise_nil, fun k => ?_, hg0.mono (by simp), by omega⟩
    rw [toD_has, mfind_nil]
    cases mfind l k <;> simp
  case round =>
    obtain ⟨left, cnt, q, hrg, hq, hql, hqr, hqf, hgw, hzw⟩ := hrel
    have QR := hide hqr; have QF := hide hqf; have GW := hide hgw; have QQ := hide hq
    clear hqr hqf hgw hq
    go_wp2_with (first
      | (at_next; refine wpList_next_map (M := kvK) _ rfl _ rfl rfl hrg (fun p hp => (HOK.out p hp).1) ?_ ?_)
      | go_in)
    · intro hc0 hl0
      go_wp2
      go_end0
      have e : q = l := rise_ext QR.out HR.out fun k => by rw [QF.out k, hl0]; simp
      subst e
      exact ⟨rfl, QQ.out, GW.out⟩
    · intro k v w1 cnt1 hlk hv hrg1 hlt hu1 hs1 hen
      have hz : w.heap.size ∉ [gd] := by simp; omega
      obtain ⟨wa, hwa, hua, hsa⟩ : ∃ wa, wa = w1 ∧ Upd [] w1 wa ∧ w1.heap.size ≤ wa.heap.size := ⟨_, rfl, Upd.refl _ _, Nat.le_refl _⟩
      have hq1 := MapKind.is_upd_nil (MapKind.is_upd QQ.out hu1 (by simp; omega)) hua
      obtain ⟨w2, hr2, hm2, hu2⟩ := MapKind.store hq1 (k := k) (v := v) (by obtain ⟨u, hu⟩ : ∃ u, (k, u) ∈ l := ⟨v, mfind_mem hv⟩; exact (HOK.out _ hu).1) ((HOK.out _ (mfind_mem hv)).2) (by unfold maxLen; omega)
      have hr2' : (Instr.mapUpdate 194 (.map (some gd)) ((fun s => Value.string (strOf s)) k) ((fun s => Value.string (strOf s)) v)).run Tryz.prog wa = .ok () w2 := hr2
      have hen' : (Instr.entry (.pointer (some ⟨w.heap.size, 0, none⟩))).run Tryz.prog w1 = .ok (.tuple #[(fun s => Value.string (strOf s)) k, (fun s => Value.string (strOf s)) v]) w1 := hen
      have hrg2 := MapKind.rng_upd (MapKind.rng_upd hrg1 hua (by simp) (by simp)) hu2 (by simpa using fun e => hne e.symm) hz
      have hpl := len_put_le (K := kvK.K) (l := q) (k := k) (v := v)
      have hf2 : ∀ j, mfind (mput kvK.K q k v) j = if ((fun z => left z && !z.sameKey (kvK.K.lit k)) (kvK.K.lit j)) = true then none else mfind l j := fun j => by
        rw [mfind_put]
        simp only [Kys.same]
        by_cases hjk : j = k
        · subst hjk
          simp [hv]
        · rw [if_neg hjk, QF.out j]
          simp [hjk]
      have HF := hide hf2; have RG2 := hide hrg2; have M2 := hide hm2; have U2 := hide (((GW.out.trans_new hu1 (fun g hg => .inr (by simp at hg; omega))).trans (hua.mono (by simp))).trans hu2); have RP := hide (rise_put (k := k) (v := v) QR.out)
      have hz2 := hu2.size
      have hcnt := MapKind.rng_cnt hrg
      have hcnt2 := MapKind.rng_cnt hrg2
      clear hr2 hen hf2 hrg1 hrg2 hm2 hu2 hu1 hrg hq1 hua
      subst hwa
      go_wp2_with fail
      go_roundw
      case rel => exact ⟨_, cnt1, _, RG2.out, M2.out, by omega, RP.out, HF.out, U2.out, by omega⟩
      case measure => rw [hcnt, hcnt2]; exact hlt
end Go.Proofs.YtanjnhohfcgapaaGreatDoor.Kv
namespace Go.Proofs.YtanjnhohfcgapaaGreatDoor.Kv
set_option linter.unusedSimpArgs false
set_option linter.unusedVariables false
open Go.RowKit Go.Lib Go.Proofs.YtanjnhohfcgapaaGreatDoor.Crc Go.Proofs.YtanjnhohfcgapaaGreatDoor.Cm

set_option maxHeartbeats 2000000 in
theorem copyT_any {gd gs : Nat} {l : TM} (w : World) (hd : tbK.is w gd []) (hs : tbK.is w gs l) (hne : gd ≠ gs) (hr : Rise tbK.K l) (hok : ∀ p ∈ l, tbK.okk p.1 ∧ tbK.oke p.2) (hl : l.length ≤ 1000000) :
    Calls Tryz.prog 161 #[.map (some gd), .map (some gs)] w fun e w' => e = .returned (.tuple #[]) ∧ tbK.is w' gd l ∧ Upd [gd] w w' := by
  have hld := MapKind.is_lt hd
  have hls := MapKind.is_lt hs
  have HR := hide hr; have HOK := hide hok; have HD := hide hd
  clear hr hok hd
  go_enter Tryz.func161, Tryz.ntmps161
  go_wp2_with (first
    | (at_range; refine wpList_range_map (M := tbK) _ rfl _ rfl rfl hs ?_; intro w0 hrg0 hg0 hs0)
    | go_in)
  go_frame
  go_loopw [8] (fun _ wr => ∃ (left : Lit → Bool) (cnt : Nat) (q : TM), tbK.rng wr gs w.heap.size l left cnt ∧ tbK.is wr gd q ∧ q.length + cnt ≤ l.length ∧ Rise tbK.K q ∧ (∀ k, mfind q k = if left (tbK.K.lit k) = true then none else mfind l k) ∧ Upd [gd] w wr ∧ w.heap.size < wr.heap.size) (fun _ wr => wr.rangeLeft gs w.heap.size)
  case atStart =>
    refine ⟨_, _, [], hrg0, MapKind.is_upd_nil HD.out hg0, by simp, rise_nil, fun k => ?_, hg0.mono (by simp), by omega⟩
    rw [toD_has, mfind_nil]
    cases mfind l k <;> simp
  case round =>
    obtain ⟨left, cnt, q, hrg, hq, hql, hqr, hqf, hgw, hzw⟩ := hrel
    have QR := hide hqr; have QF := hide hqf; have GW := hide hgw; have QQ := hide hq
    clear hqr hqf hgw hq
    go_wp2_with (first
      | (at_next; refine wpList_next_map (M := tbK) _ rfl _ rfl rfl hrg (fun p hp => (HOK.out p hp).1) ?_ ?_)
      | go_in)
    · intro hc0 hl0
      go_wp2
      go_end0
      have e : q = l := rise_ext QR.out HR.out fun k => by rw [QF.out k, hl0]; simp
      subst e
      exact ⟨rfl, QQ.out, GW.out⟩
    · intro k v w1 cnt1 hlk hv hrg1 hlt hu1 hs1 hen
      have hz : w.heap.size ∉ [gd] := by simp; omega
      obtain ⟨wa, hwa, hua, hsa⟩ : ∃ wa, wa = w1.alloc (.cells #[.int .u32 (v.seq : Int), .int .u8 (v.r.code : Int), .string (strOf v.r.text)] 207) ∧ Upd [] w1 wa ∧ w1.heap.size ≤ wa.heap.size := ⟨_, rfl, (Upd.refl _ _).alloc _, by simp⟩
      have hq1 := MapKind.is_upd_nil (MapKind.is_upd QQ.out hu1 (by simp; omega)) hua
      obtain ⟨w2, hr2, hm2, hu2⟩ := MapKind.store hq1 (k := k) (v := v) (by obtain ⟨u, hu⟩ : ∃ u, (k, u) ∈ l := ⟨v, mfind_mem hv⟩; exact (HOK.out _ hu).1) ((HOK.out _ (mfind_mem hv)).2) (by unfold maxLen; omega)
      have hr2' : (Instr.mapUpdate 198 (.map (some gd)) ((fun n : Nat => Value.int .u32 (n : Int)) k) ((fun v : La => Value.agg #[.int .u32 (v.seq : Int), .int .u8 (v.r.code : Int), .string (strOf v.r.text)]) v)).run Tryz.prog wa = .ok () w2 := hr2
      have hen' : (Instr.entry (.pointer (some ⟨w.heap.size, 0, none⟩))).run Tryz.prog w1 = .ok (.tuple #[(fun n : Nat => Value.int .u32 (n : Int)) k, (fun v : La => Value.agg #[.int .u32 (v.seq : Int), .int .u8 (v.r.code : Int), .string (strOf v.r.text)]) v]) w1 := hen
      have hrg2 := MapKind.rng_upd (MapKind.rng_upd hrg1 hua (by simp) (by simp)) hu2 (by simpa using fun e => hne e.symm) hz
      have hpl := len_put_le (K := tbK.K) (l := q) (k := k) (v := v)
      have hf2 : ∀ j, mfind (mput tbK.K q k v) j = if ((fun z => left z && !z.sameKey (tbK.K.lit k)) (tbK.K.lit j)) = true then none else mfind l j := fun j => by
        rw [mfind_put]
        simp only [Kys.same]
        by_cases hjk : j = k
        · subst hjk
          simp [hv]
        · rw [if_neg hjk, QF.out j]
          simp [hjk]
      have HF := hide hf2; have RG2 := hide hrg2; have M2 := hide hm2; have U2 := hide (((GW.out.trans_new hu1 (fun g hg => .inr (by simp at hg; omega))).trans (hua.mono (by simp))).trans hu2); have RP := hide (rise_put (k := k) (v := v) QR.out)
      have hz2 := hu2.size
      have hcnt := MapKind.rng_cnt hrg
      have hcnt2 := MapKind.rng_cnt hrg2
      clear hr2 hen hf2 hrg1 hrg2 hm2 hu2 hu1 hrg hq1 hua
      subst hwa
      go_wp2_with fail
      go_roundw
      case rel => exact ⟨_, cnt1, _, RG2.out, M2.out, by omega, RP.out, HF.out, U2.out, by omega⟩
      case measure => rw [hcnt, hcnt2]; exact hlt
end Go.Proofs.YtanjnhohfcgapaaGreatDoor.Kv
