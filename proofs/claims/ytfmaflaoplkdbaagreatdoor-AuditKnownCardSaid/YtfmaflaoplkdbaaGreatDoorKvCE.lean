/- MpR, KvEq, KvCS, KvCT, KvES, KvET in one text. -/
import Derived.Test.YtfmaflaoplkdbaaGreatDoorGenAll
import Derived.Test.YtfmaflaoplkdbaaGreatDoorKvS
import Derived.Test.YtfmaflaoplkdbaaGreatDoorKvW
import Derived.Laws.StructEq
set_option linter.unusedSimpArgs false
set_option linter.unusedVariables false
set_option linter.unnecessarySimpa false
namespace Go.Proofs.YtfmaflaoplkdbaaGreatDoor
open Go.RowKit Go.ChangeMaps Go.WideShapes

section
variable {P : Program} {κ α : Type} {M : MapKind P κ α} {w w' : World} {g r n : Nat} {l : List (κ × α)} {left : Lit → Bool} {cnt : Nat}
/-- A range over map g under way, its iterator at r: what is left of it. -/
def MapKind.rng (M : MapKind P κ α) (w : World) (g r : Nat) (l : List (κ × α)) (left : Lit → Bool) (cnt : Nat) : Prop := w.ranges P M.kt M.R g r l.length (toD M.K M.dat l) left cnt
theorem mfind_of_mem [DecidableEq κ] {p : κ × α} (h : p ∈ l) : ∃ v, mfind l p.1 = some v := by
  induction l with
  | nil => cases h
  | cons y t ih =>
    rw [mfind_cons]
    by_cases e : y.1 = p.1
    · exact ⟨_, by rw [if_pos e]⟩
    · rw [if_neg e]
      rcases List.mem_cons.1 h with rfl | h
      · exact absurd rfl e
      · exact ih h
theorem MapKind.rng_left [DecidableEq κ] (h : M.rng w g r l left cnt) {kl : Lit} (hk : left kl = true) : ∃ k v, kl = M.K.lit k ∧ mfind l k = some v ∧ ∃ q ∈ l, q.1 = k := by
  obtain ⟨es, clock, since, seen, c0, -, -, -, hD, -, -, -, -, hl, -, -⟩ := h
  obtain ⟨x, hx, hkl⟩ := hl kl hk
  have hm : WideElems.rg P M.kt M.R x ∈ (es.toList.map (WideElems.rg P M.kt M.R)).foldr DataW.insert [] := Go.mem_sorted.2 (List.mem_map.2 ⟨x, hx, rfl⟩)
  have hD' : l.map (fun p => (M.K.lit p.1, M.dat p.2)) = (es.toList.map (WideElems.rg P M.kt M.R)).foldr DataW.insert [] := by
    unfold toD at hD
    exact DataW.map.inj hD
  rw [← hD'] at hm
  obtain ⟨p, hp, he⟩ := List.mem_map.1 hm
  obtain ⟨v, hv⟩ := mfind_of_mem hp
  refine ⟨p.1, v, ?_, hv, p, hp, rfl⟩
  rw [← hkl, ← he]
theorem MapKind.rng_is (h : M.rng w g r l left cnt) : M.is w g l := World.ranges.owns h
theorem MapKind.rng_ne (h : M.rng w g r l left cnt) : r ≠ g := World.ranges.ne h
theorem grown_of_upd {S : List Nat} (hu : Upd S w w') {row : Option Nat} (hr : ∀ k ∈ S, row = some k) : w.grownBy w' row :=
  ⟨hu.os, hu.tape, hu.output, hu.size, fun k hk hne => hu.block k hk fun hm => hne (hr k hm).symm⟩
theorem MapKind.rng_upd {S : List Nat} (h : M.rng w g r l left cnt) (hu : Upd S w w') (hg : g ∉ S) (hr : r ∉ S) : M.rng w' g r l left cnt := by
  have hlg := MapKind.is_lt (MapKind.rng_is h)
  have hlr : r < w.heap.size := World.ranges.lt h
  obtain ⟨es, clock, since, seen, c0, h1, h2, h3, h4, h5, h6⟩ := h
  exact ⟨es, clock, since, seen, c0, (hu.block g hlg hg).trans h1, h2, h3, h4, (hu.block r hlr hr).trans h5, h6⟩
theorem MapKind.rng_cnt (h : M.rng w g r l left cnt) : w.rangeLeft g r = cnt := World.ranges.left_eq h
theorem upd_none (h : w.grownBy w' none) : Upd [] w w' := Upd.of_grownBy h fun k e => by cases e
section
variable (w) {ops : Array Oper} {rest : List Oper} {o : Oper} {a : Act} {Q : Exit → Act → World → Prop}
theorem wpList_range_map (hg : o.guard = none) (m : Operand) (hop : o.op = Op.range M.t m) (hm : a.eval m = .map (some g)) (h : M.is w g l)
    (hK : ∀ w', M.rng w' g w.heap.size l (Maps.has (toD M.K M.dat l)) l.length → Upd [] w w' → w'.heap.size = w.heap.size + 1 → wpList P ops Q rest (a.put o.dst (.pointer (some ⟨w.heap.size, 0, none⟩))) w') :
    wpList P ops Q (o :: rest) a w :=
  wpList_range_own w hg m M.t hop M.kt M.et M.keyed M.ht M.R g l.length (toD M.K M.dat l) hm h fun w' h1 h2 h3 => hK w' (by rw [toD_size] at h1; exact h1) (upd_none h2) h3
theorem wpList_next_map [DecidableEq κ] (hg : o.guard = none) (it : Operand) (hop : o.op = Op.next it false) (hit : a.eval it = .pointer (some ⟨r, 0, none⟩)) (h : M.rng w g r l left cnt) (hok : ∀ p ∈ l, M.okk p.1)
    (hDone : cnt = 0 → (∀ kl, left kl = false) → wpList P ops Q rest (a.put o.dst (.tuple #[.bool false])) w)
    (hMore : ∀ (k : κ) (v : α) (w' : World) (cnt' : Nat), left (M.K.lit k) = true → mfind l k = some v → M.rng w' g r l (fun z => left z && !z.sameKey (M.K.lit k)) cnt' → cnt' < cnt → Upd [r] w w' → w'.heap.size = w.heap.size →
      (Instr.entry (.pointer (some ⟨r, 0, none⟩))).run P w' = .ok (.tuple #[M.kv k, M.ev v]) w' → wpList P ops Q rest (a.put o.dst (.tuple #[.bool true, M.kv k, M.ev v])) w') :
    wpList P ops Q (o :: rest) a w :=
  wpList_next_ranges w hg it hop M.kt M.keyed M.R id id (fun key _ _ => ⟨key, rfl⟩) (fun v _ _ => ⟨v, rfl⟩) g r l.length (toD M.K M.dat l) left cnt hit h hDone fun x c kl y w' cnt' hkey hl hR hat hrg hlt hgr hsz hen => by
    obtain ⟨k, v, rfl, hv, q, hq, rfl⟩ := MapKind.rng_left h hl
    have hx : x = M.kv q.1 := M.keyed.inj hkey (M.hkey (hok q hq))
    have hy := hat (M.dat M.z)
    rw [toD_at, hv] at hy
    have hc : c = M.ev v := M.inv (ps := y.2) (by rw [show id c = c from rfl] at hR; rw [hR]; show some y = some (M.dat v, y.2); rw [show M.dat v = y.1 from hy])
    subst hx; subst hc
    exact hMore q.1 v w' cnt' hl hv hrg hlt (upd_of_grownRow hgr) hsz hen
end
end
end Go.Proofs.YtfmaflaoplkdbaaGreatDoor
namespace Go.Proofs.YtfmaflaoplkdbaaGreatDoor.Kv
set_option linter.unusedSimpArgs false
set_option linter.unusedVariables false
open Go.RowKit Go.Lib Go.Proofs.YtfmaflaoplkdbaaGreatDoor.Crc Go.Proofs.YtfmaflaoplkdbaaGreatDoor.Cm

set_option maxHeartbeats 2000000 in
theorem copyS_any {gd gs : Nat} {l : KM} (w : World) (hd : kvK.is w gd []) (hs : kvK.is w gs l) (hne : gd ≠ gs) (hr : Rise kvK.K l) (hok : ∀ p ∈ l, kvK.okk p.1 ∧ kvK.oke p.2) (hl : l.length ≤ 1000000) :
    Calls Tryz.prog 125 #[.map (some gd), .map (some gs)] w fun e w' => e = .returned (.tuple #[]) ∧ kvK.is w' gd l ∧ Upd [gd] w w' := by
  have hld := MapKind.is_lt hd
  have hls := MapKind.is_lt hs
  have HR := hide hr; have HOK := hide hok; have HD := hide hd
  clear hr hok hd
  go_enter Tryz.func125, Tryz.ntmps125
  go_wp2_with (first
    | (at_range; refine wpList_range_map (M := kvK) _ rfl _ rfl rfl hs ?_; intro w0 hrg0 hg0 hs0)
    | go_in)
  go_frame
  go_loopw [8] (fun _ wr => ∃ (left : Lit → Bool) (cnt : Nat) (q : KM), kvK.rng wr gs w.heap.size l left cnt ∧ kvK.is wr gd q ∧ q.length + cnt ≤ l.length ∧ Rise kvK.K q ∧ (∀ k, mfind q k = if left (kvK.K.lit k) = true then none else mfind l k) ∧ Upd [gd] w wr ∧ w.heap.size < wr.heap.size) (fun _ wr => wr.rangeLeft gs w.heap.size)
  case atStart =>
    refine ⟨_, _, [], hrg0, MapKind.is_upd_nil HD.out hg0, by simp, rise_nil, fun k => ?_, hg0.mono (by simp), by omega⟩
    rw [toD_has, mfind_nil]
    cases mfind l k <;> simp
  case round =>
    obtain ⟨left, cnt, q, hrg, hq, hql, hqr, hqf, hgw, hzw⟩ := hrel
    have QR := hide hqr; have QF := hide hqf; have GW := hide hgw; have QQ := hide hq
    clear hqr hqf hgw hq
    go_wp2_with (first
      | (at_next; refine wpList_next_map (M := kvK) _ rfl _ rfl rfl hrg (fun p hp => (HOK.out p hp).1) ?_ ?_)
      | go_in)
    · intro hc0 hl0
      go_wp2
      go_end0
      have e : q = l := rise_ext QR.out HR.out fun k => by rw [QF.out k, hl0]; simp
      subst e
      exact ⟨rfl, QQ.out, GW.out⟩
    · intro k v w1 cnt1 hlk hv hrg1 hlt hu1 hs1 hen
      have hz : w.heap.size ∉ [gd] := by simp; omega
      obtain ⟨wa, hwa, hua, hsa⟩ : ∃ wa, wa = w1 ∧ Upd [] w1 wa ∧ w1.heap.size ≤ wa.heap.size := ⟨_, rfl, Upd.refl _ _, Nat.le_refl _⟩
      have hq1 := MapKind.is_upd_nil (MapKind.is_upd QQ.out hu1 (by simp; omega)) hua
      obtain ⟨w2, hr2, hm2, hu2⟩ := MapKind.store hq1 (k := k) (v := v) (by obtain ⟨u, hu⟩ : ∃ u, (k, u) ∈ l := ⟨v, mfind_mem hv⟩; exact (HOK.out _ hu).1) ((HOK.out _ (mfind_mem hv)).2) (by unfold maxLen; omega)
      have hr2' : (Instr.mapUpdate 164 (.map (some gd)) ((fun s => Value.string (strOf s)) k) ((fun s => Value.string (strOf s)) v)).run Tryz.prog wa = .ok () w2 := hr2
      have hen' : (Instr.entry (.pointer (some ⟨w.heap.size, 0, none⟩))).run Tryz.prog w1 = .ok (.tuple #[(fun s => Value.string (strOf s)) k, (fun s => Value.string (strOf s)) v]) w1 := hen
      have hrg2 := MapKind.rng_upd (MapKind.rng_upd hrg1 hua (by simp) (by simp)) hu2 (by simpa using fun e => hne e.symm) hz
      have hpl := len_put_le (K := kvK.K) (l := q) (k := k) (v := v)
      have hf2 : ∀ j, mfind (mput kvK.K q k v) j = if ((fun z => left z && !z.sameKey (kvK.K.lit k)) (kvK.K.lit j)) = true then none else mfind l j := fun j => by
        rw [mfind_put]
        simp only [Kys.same]
        by_cases hjk : j = k
        · subst hjk
          simp [hv]
        · rw [if_neg hjk, QF.out j]
          simp [hjk]
      have HF := hide hf2; have RG2 := hide hrg2; have M2 := hide hm2; have U2 := hide (((GW.out.trans_new hu1 (fun g hg => .inr (by simp at hg; omega))).trans (hua.mono (by simp))).trans hu2); have RP := hide (rise_put (k := k) (v := v) QR.out)
      have hz2 := hu2.size
      have hcnt := MapKind.rng_cnt hrg
      have hcnt2 := MapKind.rng_cnt hrg2
      clear hr2 hen hf2 hrg1 hrg2 hm2 hu2 hu1 hrg hq1 hua
      subst hwa
      go_wp2_with fail
      go_roundw
      case rel => exact ⟨_, cnt1, _, RG2.out, M2.out, by omega, RP.out, HF.out, U2.out, by omega⟩
      case measure => rw [hcnt, hcnt2]; exact hlt
end Go.Proofs.YtfmaflaoplkdbaaGreatDoor.Kv
namespace Go.Proofs.YtfmaflaoplkdbaaGreatDoor.Kv
set_option linter.unusedSimpArgs false
set_option linter.unusedVariables false
open Go.RowKit Go.Lib Go.Proofs.YtfmaflaoplkdbaaGreatDoor.Crc Go.Proofs.YtfmaflaoplkdbaaGreatDoor.Cm

set_option maxHeartbeats 2000000 in
theorem copyT_any {gd gs : Nat} {l : TM} (w : World) (hd : tbK.is w gd []) (hs : tbK.is w gs l) (hne : gd ≠ gs) (hr : Rise tbK.K l) (hok : ∀ p ∈ l, tbK.okk p.1 ∧ tbK.oke p.2) (hl : l.length ≤ 1000000) :
    Calls Tryz.prog 134 #[.map (some gd), .map (some gs)] w fun e w' => e = .returned (.tuple #[]) ∧ tbK.is w' gd l ∧ Upd [gd] w w' := by
  have hld := MapKind.is_lt hd
  have hls := MapKind.is_lt hs
  have HR := hide hr; have HOK := hide hok; have HD := hide hd
  clear hr hok hd
  go_enter Tryz.func134, Tryz.ntmps134
  go_wp2_with (first
    | (at_range; refine wpList_range_map (M := tbK) _ rfl _ rfl rfl hs ?_; intro w0 hrg0 hg0 hs0)
    | go_in)
  go_frame
  go_loopw [8] (fun _ wr => ∃ (left : Lit → Bool) (cnt : Nat) (q : TM), tbK.rng wr gs w.heap.size l left cnt ∧ tbK.is wr gd q ∧ q.length + cnt ≤ l.length ∧ Rise tbK.K q ∧ (∀ k, mfind q k = if left (tbK.K.lit k) = true then none else mfind l k) ∧ Upd [gd] w wr ∧ w.heap.size < wr.heap.size) (fun _ wr => wr.rangeLeft gs w.heap.size)
  case atStart =>
    refine ⟨_, _, [], hrg0, MapKind.is_upd_nil HD.out hg0, by simp, rise_nil, fun k => ?_, hg0.mono (by simp), by omega⟩
    rw [toD_has, mfind_nil]
    cases mfind l k <;> simp
  case round =>
    obtain ⟨left, cnt, q, hrg, hq, hql, hqr, hqf, hgw, hzw⟩ := hrel
    have QR := hide hqr; have QF := hide hqf; have GW := hide hgw; have QQ := hide hq
    clear hqr hqf hgw hq
    go_wp2_with (first
      | (at_next; refine wpList_next_map (M := tbK) _ rfl _ rfl rfl hrg (fun p hp => (HOK.out p hp).1) ?_ ?_)
      | go_in)
    · intro hc0 hl0
      go_wp2
      go_end0
      have e : q = l := rise_ext QR.out HR.out fun k => by rw [QF.out k, hl0]; simp
      subst e
      exact ⟨rfl, QQ.out, GW.out⟩
    · intro k v w1 cnt1 hlk hv hrg1 hlt hu1 hs1 hen
      have hz : w.heap.size ∉ [gd] := by simp; omega
      obtain ⟨wa, hwa, hua, hsa⟩ : ∃ wa, wa = w1.alloc (.cells #[.int .u32 (v.seq : Int), .int .u8 (v.r.code : Int), .string (strOf v.r.text)] 155) ∧ Upd [] w1 wa ∧ w1.heap.size ≤ wa.heap.size := ⟨_, rfl, (Upd.refl _ _).alloc _, by simp⟩
      have hq1 := MapKind.is_upd_nil (MapKind.is_upd QQ.out hu1 (by simp; omega)) hua
      obtain ⟨w2, hr2, hm2, hu2⟩ := MapKind.store hq1 (k := k) (v := v) (by obtain ⟨u, hu⟩ : ∃ u, (k, u) ∈ l := ⟨v, mfind_mem hv⟩; exact (HOK.out _ hu).1) ((HOK.out _ (mfind_mem hv)).2) (by unfold maxLen; omega)
      have hr2' : (Instr.mapUpdate 159 (.map (some gd)) ((fun n : Nat => Value.int .u32 (n : Int)) k) ((fun v : La => Value.agg #[.int .u32 (v.seq : Int), .int .u8 (v.r.code : Int), .string (strOf v.r.text)]) v)).run Tryz.prog wa = .ok () w2 := hr2
      have hen' : (Instr.entry (.pointer (some ⟨w.heap.size, 0, none⟩))).run Tryz.prog w1 = .ok (.tuple #[(fun n : Nat => Value.int .u32 (n : Int)) k, (fun v : La => Value.agg #[.int .u32 (v.seq : Int), .int .u8 (v.r.code : Int), .string (strOf v.r.text)]) v]) w1 := hen
      have hrg2 := MapKind.rng_upd (MapKind.rng_upd hrg1 hua (by simp) (by simp)) hu2 (by simpa using fun e => hne e.symm) hz
      have hpl := len_put_le (K := tbK.K) (l := q) (k := k) (v := v)
      have hf2 : ∀ j, mfind (mput tbK.K q k v) j = if ((fun z => left z && !z.sameKey (tbK.K.lit k)) (tbK.K.lit j)) = true then none else mfind l j := fun j => by
        rw [mfind_put]
        simp only [Kys.same]
        by_cases hjk : j = k
        · subst hjk
          simp [hv]
        · rw [if_neg hjk, QF.out j]
          simp [hjk]
      have HF := hide hf2; have RG2 := hide hrg2; have M2 := hide hm2; have U2 := hide (((GW.out.trans_new hu1 (fun g hg => .inr (by simp at hg; omega))).trans (hua.mono (by simp))).trans hu2); have RP := hide (rise_put (k := k) (v := v) QR.out)
      have hz2 := hu2.size
      have hcnt := MapKind.rng_cnt hrg
      have hcnt2 := MapKind.rng_cnt hrg2
      clear hr2 hen hf2 hrg1 hrg2 hm2 hu2 hu1 hrg hq1 hua
      subst hwa
      go_wp2_with fail
      go_roundw
      case rel => exact ⟨_, cnt1, _, RG2.out, M2.out, by omega, RP.out, HF.out, U2.out, by omega⟩
      case measure => rw [hcnt, hcnt2]; exact hlt
end Go.Proofs.YtfmaflaoplkdbaaGreatDoor.Kv
namespace Go.Proofs.YtfmaflaoplkdbaaGreatDoor.Kv
set_option linter.unusedSimpArgs false
set_option linter.unusedVariables false
open Go.RowKit Go.Lib Go.Proofs.YtfmaflaoplkdbaaGreatDoor.Crc Go.Proofs.YtfmaflaoplkdbaaGreatDoor.Cm

theorem retSE_true {p : Prop} [Decidable p] (h : p) : Ending.returned (.bool true) = .returned (.bool (decide p)) := by rw [decide_eq_true h]
theorem retSE_false {p : Prop} [Decidable p] (h : ¬ p) : Ending.returned (.bool false) = .returned (.bool (decide p)) := by rw [decide_eq_false h]

set_option maxHeartbeats 2000000 in
theorem equalS_any {g1 g2 : Nat} {l m : KM} (w : World) (h1 : kvK.is w g1 l) (h2 : kvK.is w g2 m) (hr : Rise kvK.K l) (hr2 : Rise kvK.K m) (hok : ∀ p ∈ l, kvK.okk p.1) (hl : l.length ≤ 1000000) :
    Calls Tryz.prog 123 #[.map (some g1), .map (some g2)] w fun e w' => e = .returned (.bool (decide (l = m))) ∧ Upd [] w w' := by
  have hl1 := MapKind.is_lt h1
  have hl2 := MapKind.is_lt h2
  have HR := hide hr; have HR2 := hide hr2; have HOK := hide hok; have H2 := hide h2
  have n1 : ∀ ty, (Builtin.len_ #[164] ty #[.map (some g1)]).run Tryz.prog w = .ok (.int .i64 (l.length : Int)) w := fun ty => MapKind.len h1 ty
  have n2 : ∀ ty, (Builtin.len_ #[164] ty #[.map (some g2)]).run Tryz.prog w = .ok (.int .i64 (m.length : Int)) w := fun ty => MapKind.len h2 ty
  clear hr hr2 hok
  go_enter Tryz.func123, Tryz.ntmps123
  by_cases hlm : l.length = m.length
  · have q1 : ((l.length : Int) != (m.length : Int)) = false := by simp; omega
    have q2 : ((l.length : Int) == (m.length : Int)) = true := by simp; omega
    have HLM := hide hlm
    clear hlm h2
    go_wp2_with (first
      | (at_range; refine wpList_range_map (M := kvK) _ rfl _ rfl rfl h1 ?_; intro w0 hrg0 hg0 hs0)
      | go_in)
    go_frame
    go_loopw [16] (fun _ wr => ∃ (left : Lit → Bool) (cnt : Nat), kvK.rng wr g1 w.heap.size l left cnt ∧ (∀ k v, left (kvK.K.lit k) = false → mfind l k = some v → mfind m k = some v) ∧ Upd [] w wr ∧ w.heap.size < wr.heap.size) (fun _ wr => wr.rangeLeft g1 w.heap.size)
    case atStart =>
      refine ⟨_, _, hrg0, fun k v hk hv => ?_, hg0, by omega⟩
      rw [toD_has, hv] at hk
      cases hk
    case round =>
      obtain ⟨left, cnt, hrg, hall, hgw, hzw⟩ := hrel
      have HALL := hide hall; have GW := hide hgw
      clear hall hgw
      go_wp2_with (first
        | (at_next; refine wpList_next_map (M := kvK) _ rfl _ rfl rfl hrg (fun p hp => HOK.out p hp) ?_ ?_)
        | go_in)
      · intro hc0 hl0
        go_wp2
        go_ret
        have e : l = m := rise_eq HR.out HR2.out HLM.out fun k v hv => HALL.out k v (hl0 _) hv
        exact ⟨retSE_true e, GW.out⟩
      · intro k v w1 cnt1 hlk hv hrg1 hlt hu1 hs1 hen
        have hkk : kvK.okk k := HOK.out _ (mfind_mem hv)
        obtain ⟨o, ho⟩ : ∃ o, mfind m k = o := ⟨_, rfl⟩
        have u1 := GW.out.trans_new hu1 (fun g hg => .inr (by simp at hg; omega))
        obtain ⟨wa, hwa, hua, hsa⟩ : ∃ wa, wa = w1 ∧ Upd [] w1 wa ∧ w1.heap.size ≤ wa.heap.size := ⟨_, rfl, Upd.refl _ _, Nat.le_refl _⟩
        have hlo := MapKind.look (MapKind.is_upd_nil H2.out (u1.trans hua)) (k := k) hkk
        rw [ho] at hlo
        have hen' : (Instr.entry (.pointer (some ⟨w.heap.size, 0, none⟩))).run Tryz.prog w1 = .ok (.tuple #[(fun s => Value.string (strOf s)) k, (fun s => Value.string (strOf s)) v]) w1 := hen
        have hv' := HALL
        have HV := hide hv; have HO := hide ho; have RG := hide hrg1; have U1 := hide u1
        have hcnt := MapKind.rng_cnt hrg
        have hza : w1.heap.size = wr.heap.size := hs1
        clear hen hv ho hrg1 u1 hu1 hv'
        cases o with
        | none =>
          have hl' : (Instr.lookup 164 (.map (some g2)) ((fun s => Value.string (strOf s)) k) true).run Tryz.prog wa = .ok (.tuple #[.string (strOf []), .bool false]) wa := hlo
          have UA := hide (U1.out.trans hua)
          clear hlo hrg hua
          subst hwa
          go_wp2_with fail
          go_ret
          have hne : l ≠ m := fun e => by have h1 := HV.out; rw [e, HO.out] at h1; cases h1
          exact ⟨retSE_false hne, UA.out⟩
        | some u =>
          have hl' : (Instr.lookup 164 (.map (some g2)) ((fun s => Value.string (strOf s)) k) true).run Tryz.prog wa = .ok (.tuple #[(fun s => Value.string (strOf s)) u, .bool true]) wa := hlo
          have hrga := MapKind.rng_upd RG.out hua (by simp) (by simp)
          have UA := hide (U1.out.trans hua)
          by_cases hvu : v = u
          · have qe : ((strOf v).toList == (strOf u).toList) = true := by rw [strOf_eq, decide_eq_true hvu]
            have hall2 : ∀ k' v', (fun z => left z && !z.sameKey (kvK.K.lit k)) (kvK.K.lit k') = false → mfind l k' = some v' → mfind m k' = some v' := fun k' v' hk' hv' => by
              simp only [Kys.same] at hk'
              by_cases hkk' : k' = k
              · subst hkk'
                rw [HV.out] at hv'
                cases hv'
                rw [HO.out, hvu]
              · refine HALL.out k' v' ?_ hv'
                simpa [hkk'] using hk'
            have HALL2 := hide hall2
            clear hall2 hlo hrg hua hvu
            subst hwa
            have hrgb := hrga
            have hcnt2 := MapKind.rng_cnt hrgb
            have RGB := hide hrgb
            clear hrga hrgb
            go_wp2_with fail
            go_roundw
            case rel => exact ⟨_, cnt1, RGB.out, HALL2.out, UA.out, by first | omega | (simp; omega)⟩
            case measure => rw [hcnt, hcnt2]; exact hlt
          · have qe : ((strOf v).toList == (strOf u).toList) = false := by rw [strOf_eq, decide_eq_false hvu]
            have hne : l ≠ m := fun e => hvu (by have h1 := HV.out; rw [e, HO.out] at h1; cases h1; rfl)
            have HNE := hide hne
            clear hne hlo hrg hua hvu hrga
            subst hwa
            go_wp2_with fail
            go_ret
            exact ⟨retSE_false HNE.out, UA.out⟩
  · have q1 : ((l.length : Int) != (m.length : Int)) = true := by simp; omega
    have q2 : ((l.length : Int) == (m.length : Int)) = false := by simp; omega
    have HLM := hide hlm
    clear hlm
    go_wp2_with fail
    go_ret
    exact ⟨retSE_false (fun e => HLM.out (by rw [e])), Upd.refl _ _⟩
end Go.Proofs.YtfmaflaoplkdbaaGreatDoor.Kv
namespace Go.Proofs.YtfmaflaoplkdbaaGreatDoor.Kv
open Go.RowKit Go.Lib Go.Proofs.YtfmaflaoplkdbaaGreatDoor.Crc Go.Proofs.YtfmaflaoplkdbaaGreatDoor.Cm

theorem part_of {t : TypeId} {xs : Array Value} {o : Nat} {v : Value} {w : World} (h : (isAgg t).run Tryz.prog w = .ok false w) (hv : xs[o]? = some v) : (part t xs o).run Tryz.prog w = .ok v w := by
  simp [part, Sem.run_bind, h, hv]
theorem agg_int (t : TypeId) {k : IntKind} (h : Tryz.prog.underlying t = some (.int k)) (w : World) : (isAgg t).run Tryz.prog w = .ok false w := by
  unfold isAgg
  rw [Sem.run_bind, run_underlying h w]
  rfl
theorem agg_str (t : TypeId) (h : Tryz.prog.underlying t = some .string) (w : World) : (isAgg t).run Tryz.prog w = .ok false w := by
  unfold isAgg
  rw [Sem.run_bind, run_underlying h w]
  rfl
theorem flds_re : (Tryz.prog.fieldsOf 37).toList.map (fun f => (f.name == "_", f.type, f.offset)) = [(false, 5, 0), (false, 9, 1)] := by kernel_rfl
theorem eqF_nil (d : Nat) (xs ys : Array Value) (w : World) : (Op.eqFields d xs ys []).run Tryz.prog w = .ok true w := rfl
theorem eqF_cons {d : Nat} {xs ys : Array Value} {f : Field} {fs : List Field} {w : World} {a b : Value} {r : Bool} (hn : (f.name == "_") = false) (ha : (part f.type xs f.offset).run Tryz.prog w = .ok a w) (hb : (part f.type ys f.offset).run Tryz.prog w = .ok b w) (he : (Op.equalIn d f.type a b).run Tryz.prog w = .ok r w) :
    (Op.eqFields d xs ys (f :: fs)).run Tryz.prog w = if r then (Op.eqFields d xs ys fs).run Tryz.prog w else .ok false w := by
  have hn' : f.name ≠ "_" := by simpa using hn
  conv => lhs; unfold Op.eqFields
  rw [if_pos hn']
  simp only [Sem.run_bind, ha, hb, he, Result.andThen_ok]
  cases r <;> rfl
theorem map2 {X Y : Type} {f : X → Y} {l : List X} {a b : Y} (h : l.map f = [a, b]) : ∃ x y, l = [x, y] ∧ f x = a ∧ f y = b := by
  obtain ⟨x, l1, rfl, h1, h2⟩ := List.map_eq_cons_iff.1 h
  obtain ⟨y, l2, rfl, h3, h4⟩ := List.map_eq_cons_iff.1 h2
  obtain rfl := List.map_eq_nil_iff.1 h4
  exact ⟨x, y, rfl, h1, h3⟩
theorem map3 {X Y : Type} {f : X → Y} {l : List X} {a b c : Y} (h : l.map f = [a, b, c]) : ∃ x y z, l = [x, y, z] ∧ f x = a ∧ f y = b ∧ f z = c := by
  obtain ⟨x, l1, rfl, h1, h2⟩ := List.map_eq_cons_iff.1 h
  obtain ⟨y, z, rfl, h3, h4⟩ := map2 h2
  exact ⟨x, y, z, rfl, h1, h3, h4⟩
theorem eq_re (d : Nat) (a b : Int) (s t : List UInt8) (w : World) : (Op.equalIn (d + 2) 37 (.agg #[.int .u8 a, .string (strOf s)]) (.agg #[.int .u8 b, .string (strOf t)])).run Tryz.prog w = .ok (a == b && decide (s = t)) w := by
  rw [run_equalIn_struct w (d + 1) 37 _ _ (by kernel_rfl) (by kernel_rfl)]
  have hf := flds_re
  generalize (Tryz.prog.fieldsOf 37).toList = fs at hf ⊢
  obtain ⟨f, g, rfl, hf1, hg1⟩ := map2 hf
  simp only [Prod.mk.injEq] at hf1 hg1
  obtain ⟨f1, f2, f3⟩ := hf1
  obtain ⟨g1, g2, g3⟩ := hg1
  rw [eqF_cons f1 (by rw [f2, f3]; exact part_of (agg_int _ Tryz.underlying5 w) rfl) (by rw [f2, f3]; exact part_of (agg_int _ Tryz.underlying5 w) rfl) (by rw [f2]; exact run_equalIn_int w d 5 .u8 .u8 a b Tryz.underlying5)]
  rw [eqF_cons g1 (by rw [g2, g3]; exact part_of (agg_str _ Tryz.underlying9 w) rfl) (by rw [g2, g3]; exact part_of (agg_str _ Tryz.underlying9 w) rfl) (by rw [g2]; exact run_equalIn_string w d 9 (strOf s) (strOf t) Tryz.underlying9), eqF_nil, strOf_eq]
  cases (a == b) <;> by_cases h : s = t <;> simp [h]
theorem part_re {xs : Array Value} {x y : Value} {w : World} (h : xs.extract 1 3 = #[x, y]) : (part 37 xs 1).run Tryz.prog w = .ok (.agg #[x, y]) w := by
  have h1 : (isAgg 37).run Tryz.prog w = .ok true w := by kernel_rfl
  simp [part, Sem.run_bind, h1, h]
theorem flds_la : (Tryz.prog.fieldsOf 155).toList.map (fun f => (f.name == "_", f.type, f.offset)) = [(false, 22, 0), (false, 37, 1)] := by kernel_rfl
theorem eq_la (a b : La) (w : World) : (Op.equalIn 10000 155 (lastV a) (lastV b)).run Tryz.prog w = .ok (decide (a = b)) w := by
  unfold lastV
  rw [run_equalIn_struct w 9999 155 _ _ (by kernel_rfl) (by kernel_rfl)]
  have hf := flds_la
  generalize (Tryz.prog.fieldsOf 155).toList = fs at hf ⊢
  obtain ⟨f, k, rfl, hf1, hk1⟩ := map2 hf
  simp only [Prod.mk.injEq] at hf1 hk1
  obtain ⟨f1, f2, f3⟩ := hf1
  obtain ⟨k1, k2, k3⟩ := hk1
  have e1 := run_equalIn_int (P := Tryz.prog) w 9998 22 .u32 .u32 (a.seq : Int) (b.seq : Int) Tryz.underlying22
  have e3 := eq_re 9997 (a.r.code : Int) (b.r.code : Int) a.r.text b.r.text w
  rw [eqF_cons f1 (by rw [f2, f3]; exact part_of (agg_int _ Tryz.underlying22 w) rfl) (by rw [f2, f3]; exact part_of (agg_int _ Tryz.underlying22 w) rfl) (by rw [f2]; exact e1)]
  rw [eqF_cons k1 (by rw [k2, k3]; exact part_re rfl) (by rw [k2, k3]; exact part_re rfl) (by rw [k2]; exact e3), eqF_nil]
  obtain ⟨s1, d1, t1⟩ := a
  obtain ⟨s2, d2, t2⟩ := b
  simp only [La.mk.injEq, Rp.mk.injEq]
  by_cases h2 : s1 = s2 <;> by_cases h3 : d1 = d2 <;> by_cases h4 : t1 = t2 <;> simp [h2, h3, h4] <;> omega
theorem neq_last (a b : La) (w : World) : (binOp .neq 155 (.agg #[.int .u32 (a.seq : Int), .int .u8 (a.r.code : Int), .string (strOf a.r.text)]) (.agg #[.int .u32 (b.seq : Int), .int .u8 (b.r.code : Int), .string (strOf b.r.text)])).run Tryz.prog w = .ok (.bool (!decide (a = b))) w := by
  rw [run_neq_struct]
  have := eq_la a b w
  unfold lastV at this
  rw [this]
  rfl
theorem eq_rp (a b : Rp) (w : World) : (Op.equalIn 10000 37 (.agg #[.int .u8 (a.code : Int), .string (strOf a.text)]) (.agg #[.int .u8 (b.code : Int), .string (strOf b.text)])).run Tryz.prog w = .ok (decide (a = b)) w := by
  have h := eq_re 9998 (a.code : Int) (b.code : Int) a.text b.text w
  rw [h]
  obtain ⟨c1, t1⟩ := a
  obtain ⟨c2, t2⟩ := b
  simp only [Rp.mk.injEq]
  by_cases h3 : c1 = c2 <;> by_cases h4 : t1 = t2 <;> simp [h3, h4] <;> omega
theorem neq_rp (a b : Rp) (w : World) : (binOp .neq 37 (.agg #[.int .u8 (a.code : Int), .string (strOf a.text)]) (.agg #[.int .u8 (b.code : Int), .string (strOf b.text)])).run Tryz.prog w = .ok (.bool (!decide (a = b))) w := by
  rw [run_neq_struct, eq_rp]
  rfl
end Go.Proofs.YtfmaflaoplkdbaaGreatDoor.Kv
namespace Go.Proofs.YtfmaflaoplkdbaaGreatDoor.Kv
set_option linter.unusedSimpArgs false
set_option linter.unusedVariables false
open Go.RowKit Go.Lib Go.Proofs.YtfmaflaoplkdbaaGreatDoor.Crc Go.Proofs.YtfmaflaoplkdbaaGreatDoor.Cm

theorem retTE_true {p : Prop} [Decidable p] (h : p) : Ending.returned (.bool true) = .returned (.bool (decide p)) := by rw [decide_eq_true h]
theorem retTE_false {p : Prop} [Decidable p] (h : ¬ p) : Ending.returned (.bool false) = .returned (.bool (decide p)) := by rw [decide_eq_false h]

set_option maxHeartbeats 2000000 in
theorem equalT_any {g1 g2 : Nat} {l m : TM} (w : World) (h1 : tbK.is w g1 l) (h2 : tbK.is w g2 m) (hr : Rise tbK.K l) (hr2 : Rise tbK.K m) (hok : ∀ p ∈ l, tbK.okk p.1) (hl : l.length ≤ 1000000) :
    Calls Tryz.prog 124 #[.map (some g1), .map (some g2)] w fun e w' => e = .returned (.bool (decide (l = m))) ∧ Upd [] w w' := by
  have hl1 := MapKind.is_lt h1
  have hl2 := MapKind.is_lt h2
  have HR := hide hr; have HR2 := hide hr2; have HOK := hide hok; have H2 := hide h2
  have n1 : ∀ ty, (Builtin.len_ #[159] ty #[.map (some g1)]).run Tryz.prog w = .ok (.int .i64 (l.length : Int)) w := fun ty => MapKind.len h1 ty
  have n2 : ∀ ty, (Builtin.len_ #[159] ty #[.map (some g2)]).run Tryz.prog w = .ok (.int .i64 (m.length : Int)) w := fun ty => MapKind.len h2 ty
  clear hr hr2 hok
  go_enter Tryz.func124, Tryz.ntmps124
  by_cases hlm : l.length = m.length
  · have q1 : ((l.length : Int) != (m.length : Int)) = false := by simp; omega
    have q2 : ((l.length : Int) == (m.length : Int)) = true := by simp; omega
    have HLM := hide hlm
    clear hlm h2
    go_wp2_with (first
      | (at_range; refine wpList_range_map (M := tbK) _ rfl _ rfl rfl h1 ?_; intro w0 hrg0 hg0 hs0)
      | go_in)
    go_frame
    go_loopw [16] (fun _ wr => ∃ (left : Lit → Bool) (cnt : Nat), tbK.rng wr g1 w.heap.size l left cnt ∧ (∀ k v, left (tbK.K.lit k) = false → mfind l k = some v → mfind m k = some v) ∧ Upd [] w wr ∧ w.heap.size < wr.heap.size) (fun _ wr => wr.rangeLeft g1 w.heap.size)
    case atStart =>
      refine ⟨_, _, hrg0, fun k v hk hv => ?_, hg0, by omega⟩
      rw [toD_has, hv] at hk
      cases hk
    case round =>
      obtain ⟨left, cnt, hrg, hall, hgw, hzw⟩ := hrel
      have HALL := hide hall; have GW := hide hgw
      clear hall hgw
      go_wp2_with (first
        | (at_next; refine wpList_next_map (M := tbK) _ rfl _ rfl rfl hrg (fun p hp => HOK.out p hp) ?_ ?_)
        | go_in)
      · intro hc0 hl0
        go_wp2
        go_ret
        have e : l = m := rise_eq HR.out HR2.out HLM.out fun k v hv => HALL.out k v (hl0 _) hv
        exact ⟨retTE_true e, GW.out⟩
      · intro k v w1 cnt1 hlk hv hrg1 hlt hu1 hs1 hen
        have hkk : tbK.okk k := HOK.out _ (mfind_mem hv)
        obtain ⟨o, ho⟩ : ∃ o, mfind m k = o := ⟨_, rfl⟩
        have u1 := GW.out.trans_new hu1 (fun g hg => .inr (by simp at hg; omega))
        obtain ⟨wa, hwa, hua, hsa⟩ : ∃ wa, wa = w1.alloc (.cells #[.int .u32 (v.seq : Int), .int .u8 (v.r.code : Int), .string (strOf v.r.text)] 155) ∧ Upd [] w1 wa ∧ w1.heap.size ≤ wa.heap.size := ⟨_, rfl, (Upd.refl _ _).alloc _, by simp⟩
        have hlo := MapKind.look (MapKind.is_upd_nil H2.out (u1.trans hua)) (k := k) hkk
        rw [ho] at hlo
        have hen' : (Instr.entry (.pointer (some ⟨w.heap.size, 0, none⟩))).run Tryz.prog w1 = .ok (.tuple #[(fun n : Nat => Value.int .u32 (n : Int)) k, (fun v : La => Value.agg #[.int .u32 (v.seq : Int), .int .u8 (v.r.code : Int), .string (strOf v.r.text)]) v]) w1 := hen
        have hv' := HALL
        have HV := hide hv; have HO := hide ho; have RG := hide hrg1; have U1 := hide u1
        have hcnt := MapKind.rng_cnt hrg
        have hza : w1.heap.size = wr.heap.size := hs1
        clear hen hv ho hrg1 u1 hu1 hv'
        cases o with
        | none =>
          have hl' : (Instr.lookup 159 (.map (some g2)) ((fun n : Nat => Value.int .u32 (n : Int)) k) true).run Tryz.prog wa = .ok (.tuple #[.agg #[.int .u32 0, .int .u8 0, .string (strOf [])], .bool false]) wa := hlo
          have UA := hide (U1.out.trans hua)
          clear hlo hrg hua
          subst hwa
          go_wp2_with fail
          go_ret
          have hne : l ≠ m := fun e => by have h1 := HV.out; rw [e, HO.out] at h1; cases h1
          exact ⟨retTE_false hne, UA.out.alloc _⟩
        | some u =>
          have hl' : (Instr.lookup 159 (.map (some g2)) ((fun n : Nat => Value.int .u32 (n : Int)) k) true).run Tryz.prog wa = .ok (.tuple #[(fun v : La => Value.agg #[.int .u32 (v.seq : Int), .int .u8 (v.r.code : Int), .string (strOf v.r.text)]) u, .bool true]) wa := hlo
          have hrga := MapKind.rng_upd RG.out hua (by simp) (by simp)
          have UA := hide (U1.out.trans hua)
          by_cases hvu : v = u
          · have qe := fun w => neq_last v u w
            rw [decide_eq_true hvu] at qe
            have hall2 : ∀ k' v', (fun z => left z && !z.sameKey (tbK.K.lit k)) (tbK.K.lit k') = false → mfind l k' = some v' → mfind m k' = some v' := fun k' v' hk' hv' => by
              simp only [Kys.same] at hk'
              by_cases hkk' : k' = k
              · subst hkk'
                rw [HV.out] at hv'
                cases hv'
                rw [HO.out, hvu]
              · refine HALL.out k' v' ?_ hv'
                simpa [hkk'] using hk'
            have HALL2 := hide hall2
            clear hall2 hlo hrg hua hvu
            subst hwa
            have hrgb := MapKind.rng_upd hrga ((Upd.refl [] _).alloc (.cells #[.int .u32 (u.seq : Int), .int .u8 (u.r.code : Int), .string (strOf u.r.text)] 155)) (by simp) (by simp)
            have hcnt2 := MapKind.rng_cnt hrgb
            have RGB := hide hrgb
            clear hrga hrgb
            go_wp2_with fail
            go_roundw
            case rel => exact ⟨_, cnt1, RGB.out, HALL2.out, UA.out.alloc _, by first | omega | (simp; omega)⟩
            case measure => rw [hcnt, hcnt2]; exact hlt
          · have qe := fun w => neq_last v u w
            rw [decide_eq_false hvu] at qe
            have hne : l ≠ m := fun e => hvu (by have h1 := HV.out; rw [e, HO.out] at h1; cases h1; rfl)
            have HNE := hide hne
            clear hne hlo hrg hua hvu hrga
            subst hwa
            go_wp2_with fail
            go_ret
            exact ⟨retTE_false HNE.out, UA.out.alloc _⟩
  · have q1 : ((l.length : Int) != (m.length : Int)) = true := by simp; omega
    have q2 : ((l.length : Int) == (m.length : Int)) = false := by simp; omega
    have HLM := hide hlm
    clear hlm
    go_wp2_with fail
    go_ret
    exact ⟨retTE_false (fun e => HLM.out (by rw [e])), Upd.refl _ _⟩
end Go.Proofs.YtfmaflaoplkdbaaGreatDoor.Kv
