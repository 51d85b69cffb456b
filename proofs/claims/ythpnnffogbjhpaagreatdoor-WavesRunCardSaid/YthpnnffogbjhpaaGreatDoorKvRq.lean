/- quorateref09: Without, With, Touches; kv.Touches; quoratelaw09.in (KvRf, KvRg, KvRh, KvRi in one). -/
import Derived.Test.YthpnnffogbjhpaaGreatDoorKvR
import Derived.Test.YthpnnffogbjhpaaGreatDoorKvWH
import Derived.Test.YthpnnffogbjhpaaGreatDoorKvPure
import Derived.Test.YthpnnffogbjhpaaGreatDoorKvLs
import Derived.Test.YthpnnffogbjhpaaGreatDoorKvLV
import Derived.Test.YthpnnffogbjhpaaGreatDoorGenAll
import Derived.Lib.RowBridge
set_option linter.unusedSimpArgs false
set_option linter.unusedVariables false
set_option linter.unnecessarySimpa false
namespace Go.Proofs.YthpnnffogbjhpaaGreatDoor.Kv
set_option linter.unusedSimpArgs false
set_option linter.unusedVariables false
set_option linter.unnecessarySimpa false
open Go.RowKit Go.Proofs.YthpnnffogbjhpaaGreatDoor.Crc Go.Proofs.YthpnnffogbjhpaaGreatDoor.Cm

abbrev TPair : TypeId := 146
def pairK : Kind (List UInt8 × List UInt8) where
  z := 2
  hz := by decide
  holds _ _ p cs := cs = [strV p.1, strV p.2]
  len := by rintro w T p cs rfl; rfl
  one := by rintro w T p cs rfl; simp [strV, Value.oneCell']
  upd := by rintro w w' T p cs S h hu hS; exact h
  mono := by rintro w T U p cs h hT; exact h
theorem pair_get {w : World} {T : Nat → Prop} {v : Value} {l : KM} (h : pairK.row w T v l) : ∃ (xo : Option Addr) (c : Nat), v = .slice xo l.length c ∧ l.length ≤ c ∧ c ≤ maxLen ∧
    ∀ i p, l[i]? = some p → ∃ b off, xo = some ⟨b, off, none⟩ ∧ b < w.heap.size ∧ T b ∧ w.cell? ⟨b, off + i * 2, none⟩ = some (.string (strOf p.1)) ∧ w.cell? ⟨b, off + i * 2 + 1, none⟩ = some (.string (strOf p.2)) := by
  obtain ⟨xo, c, rfl, h1, h2, hg⟩ := Row.get pairK.hz h
  refine ⟨xo, c, rfl, h1, h2, fun i p hi => ?_⟩
  obtain ⟨b, off, cs, rfl, hb, hT, rfl, -, hcell⟩ := hg i p hi
  exact ⟨b, off, rfl, hb, hT, hcell 0 _ rfl, hcell 1 _ rfl⟩
theorem infoP : (Tryz.prog.info? TPair).map (fun i => (i.zero, i.size, i.bytes)) = some (some (.agg #[.string ByteArray.empty, .string ByteArray.empty]), 2, 32) := by kernel_rfl
theorem partsP {p : Option TypeInfo} {z : Value} {a b : Nat} (h : p.map (fun i => (i.zero, i.size, i.bytes)) = some (some z, a, b)) : ∃ i, p = some i ∧ i.zero = some z ∧ i.size = a ∧ i.bytes = b := by
  cases p with
  | none => cases h
  | some i =>
    simp only [Option.map_some, Option.some.injEq, Prod.mk.injEq] at h
    exact ⟨i, rfl, h.1, h.2.1, h.2.2⟩
theorem del_next {l : KM} {k : List UInt8} {j : Nat} {p : List UInt8 × List UInt8} (h : l[j]? = some p) : mdel (l.take (j + 1)) k = mdel (l.take j) k ++ (if p.1 = k then [] else [p]) := by
  rw [List.take_add_one, h]
  unfold mdel
  rw [List.filter_append]
  by_cases e : p.1 = k <;> simp [e]
theorem pair_src {w : World} {b : Nat} {p : List UInt8 × List UInt8} {t : TypeId} (h : w.heap[b]? = some (.cells #[.string (strOf p.1), .string (strOf p.2)] t (0, 0))) : SrcAt w (some ⟨b, 0, none⟩) 1 1 [strV p.1, strV p.2] 2 := by
  refine ⟨rfl, by simp [strV, Value.oneCell'], by simp, fun a e j u hj => ?_⟩
  cases e
  rw [show (⟨b, 0, none⟩ : Addr).add j = ⟨b, j, none⟩ by unfold Addr.add; split <;> simp_all]
  simp only [World.cell?, h]
  simpa [strV] using hj
set_option maxRecDepth 100000 in
set_option maxHeartbeats 2000000 in
theorem without_any {T : Nat → Prop} {v : Value} {l : KM} {k : List UInt8} (w : World) (h : pairK.row w T v l) (hl : l.length ≤ 100000) :
    Calls Tryz.prog 72 #[v, .string (strOf k)] w fun e w' => (∃ v', e = .returned v' ∧ pairK.bag TPair w' w.heap.size v' (mdel l k)) ∧ Upd [] w w' := by
  obtain ⟨xo, cp, rfl, hcp, hcm, hg⟩ := pair_get h
  have HG := hide hg
  simp only [maxLen] at hcm
  clear h hg
  obtain ⟨i1, hi1, iz0, iz1, iz2⟩ := partsP infoP
  go_enter Tryz.func72, Tryz.ntmps72
  go_wp2_with fail
  go_loopw [5, 6] (fun so si wr => ∃ (j : Nat) (L : KM), L = mdel (l.take j) k ∧ j ≤ l.length ∧ si = .int .i64 j ∧ pairK.bag TPair wr w.heap.size so L ∧ Upd [] w wr) (fun _ si _ => l.length - (RowKit.intOf si).toNat)
  case atStart => exact ⟨0, [], rfl, by omega, rfl, pairK.bag_nil _ _ _, Upd.refl _ _⟩
  case round =>
    obtain ⟨j, L, hL, hj, rfl, hbg, hu⟩ := hrel
    have HLK := hide hL; have HBG := hide hbg; have HU := hide hu
    have hLl : L.length ≤ j := by
      rw [hL]
      have := len_del_le (l := l.take j) (k := k)
      simp at this
      omega
    clear hL hu
    by_cases hlt : j < l.length
    · have d5 : decide ((j : Int) < l.length) = true := by simp; omega
      have d5' : decide (j < l.length) = true := by simpa using hlt
      obtain ⟨p, hp⟩ : ∃ p, l[j]? = some p := ⟨_, List.getElem?_eq_getElem hlt⟩
      obtain ⟨b, off, rfl, hb, -, hc0, hc1⟩ := HG.out j p hp
      have c0 := cell_upd hc0 HU.out (by simp)
      have c1 := cell_upd hc1 HU.out (by simp)
      have hdn := del_next (k := k) hp
      rw [← HLK.out] at hdn
      clear hp hc0 hc1
      by_cases hpk : p.1 = k
      · have e1 : ((strOf p.1).toList == (strOf k).toList) = true := by rw [strOf_eq, decide_eq_true hpk]
        rw [if_pos hpk, List.append_nil] at hdn
        have HDN := hide hdn
        clear hdn hpk hbg
        go_wp2_with fail
        go_roundw
        case rel => exact ⟨j + 1, L, HDN.out.symm, by omega, by go_num, HBG.out, HU.out⟩
        case measure => simp [RowKit.intOf]; omega
      · have e1 : ((strOf p.1).toList == (strOf k).toList) = false := by rw [strOf_eq, decide_eq_false hpk]
        rw [if_neg hpk] at hdn
        have HDN := hide hdn
        obtain ⟨ao, cap, rfl, hc1', hc2'⟩ := Row.slice (pairK.bag_row hbg)
        have hol2 := Own.lt hbg
        have HOL := hide hol2
        have hal := (Upd.refl [] wr).alloc (.cells #[.string (strOf p.1), .string (strOf p.2)] TPair)
        obtain ⟨css, hcss, hrow⟩ := pairK.bag_open (pairK.bag_upd_nil HBG.out hal)
        have HCSS := hide hcss; have HROW := hide hrow
        have hz := HU.out.size
        clear hdn hpk hbg hol2 hcss hrow hal
        go_wp2_with (at_builtin; go_must (refine wpList_append_src _ rfl _ _ 33 rfl w.heap.size TPair i1 (.agg #[.string ByteArray.empty, .string ByteArray.empty]) 2 32 Tryz.underlying33 hi1 iz0 iz1 iz2 rfl (by decide) (.slice ao L.length cap) L.length css.flatten rfl HROW.out (some ⟨wr.heap.size, 0, none⟩) 1 1 [strV p.1, strV p.2] rfl (pair_src (blk_new _ _)) (by unfold maxLen; omega) (by omega) (by simp; omega) ?_))
        intro ao6 cap6 w6 hown6 hU6 hn6
        have bg6 := Kind.bag_more HCSS.out (K := pairK) (x := p) rfl hown6 rfl hU6 (by simpa using hn6)
        have hU6' := grown_upd hU6
        have u6 := HU.out.trans_new hU6' (fun g hm => .inr (by have := HOL.out _ (by simpa using hm); omega))
        have BG6 := hide bg6; have U6 := hide u6
        clear hown6 hU6 hU6' hn6 bg6 u6
        go_wp2_with fail
        go_roundw
        case rel => exact ⟨j + 1, L ++ [p], HDN.out.symm, by omega, by go_num, BG6.out, U6.out⟩
        case measure => simp [RowKit.intOf]; omega
    · have d5 : decide ((j : Int) < l.length) = false := by simp; omega
      have d5' : decide (j < l.length) = false := by simpa using hlt
      have hall : l.take j = l := List.take_of_length_le (by omega)
      have hb' := HBG.out
      rw [HLK.out, hall] at hb'
      have HB := hide hb'
      obtain ⟨ao, cap, rfl, -, -⟩ := Row.slice (pairK.bag_row hbg)
      clear hlt hall hbg hb'
      go_wp2_with fail
      go_ret
      exact ⟨⟨_, rfl, HB.out⟩, HU.out⟩
end Go.Proofs.YthpnnffogbjhpaaGreatDoor.Kv
namespace Go.Proofs.YthpnnffogbjhpaaGreatDoor.Kv
set_option linter.unusedSimpArgs false
set_option linter.unusedVariables false
set_option linter.unnecessarySimpa false
open Go.RowKit Go.Proofs.YthpnnffogbjhpaaGreatDoor.Crc Go.Proofs.YthpnnffogbjhpaaGreatDoor.Cm

theorem cutZ_zero (z : Nat) (xo : Option Addr) (c : Nat) : cutZ z xo 0 c = xo := by
  unfold cutZ
  split
  · rfl
  · cases xo with
    | none => rfl
    | some a => simp [Addr.add]
section
variable {P : Program} (t e : TypeId) (z : Nat) (ht : P.underlying t = some (.slice e)) (hz : ∀ w, (sizeOf e).run P w = .ok z w) (xo : Option Addr) (m c : Nat)
include ht hz
theorem run_cutz_l (l : Nat) (i : Int) (hi : i = l) (h : l ≤ m) (w : World) : (Instr.slice t (.slice xo m c) (some (.int .i64 i)) none none).run P w = .ok (.slice (cutZ z xo l c) (m - l) (c - l)) w := by
  subst hi
  have hel : P.elem t = e := by simp [Program.elem, ht]
  rw [run_slice_l (P := P) w t xo m c (by rw [hel]; exact ht) .i64 l (by omega) (by omega), hel, hz]
  simp [Result.andThen, sliced, cutZ]
theorem run_cutz_h (h : Nat) (j : Int) (hj : j = h) (h2 : h ≤ c) (w : World) : (Instr.slice t (.slice xo m c) none (some (.int .i64 j)) none).run P w = .ok (.slice xo h c) w := by
  subst hj
  have hel : P.elem t = e := by simp [Program.elem, ht]
  rw [run_slice_h (P := P) w t xo m c (by rw [hel]; exact ht) .i64 h (by omega) (by omega), hel, hz]
  have := cutZ_zero z xo c
  simp only [cutZ] at this
  simp [Result.andThen, sliced]
  rw [← this]
  split <;> simp_all
end
theorem row_src {X : Type} {w : World} {T : Nat → Prop} {z : Nat} {P : X → List Value → Prop} {xo : Option Addr} {n c : Nat} {l : List X} (h : Row w T z P (.slice xo n c) l) : n = l.length ∧ ∃ css, Each P l css ∧ (∀ cs ∈ css, cs.length = z) ∧ SrcAt w xo n c css.flatten z := by
  obtain ⟨xo', c', css, e, -, -, h1, h2, h3, -⟩ := Row.src h
  cases e
  exact ⟨rfl, css, h1, h2, h3⟩
/-- Where a key's place is. -/
def PlaceAt (q : KM) (k : List UInt8) (a : Nat) : Prop := a ≤ q.length ∧ (∀ j p, j < a → q[j]? = some p → p.1 < k) ∧ ∀ p, q[a]? = some p → ¬ p.1 < k
theorem place_ins {q : KM} {k x : List UInt8} {a : Nat} (h : PlaceAt q k a) (hk : ∀ p ∈ q, p.1 ≠ k) : q.take a ++ [(k, x)] ++ q.drop a = mins strK (k, x) q := by
  induction q generalizing a with
  | nil => simp [mins]
  | cons p t ih =>
    obtain ⟨h1, h2, h3⟩ := h
    have hpk := hk p (by simp)
    cases a with
    | zero =>
      have h4 : ¬ p.1 < k := h3 p rfl
      have h5 : k < p.1 := by
        rcases lex_total hpk with h | h
        · exact absurd h h4
        · exact h
      simp [mins, strK_lt, h5]
    | succ a =>
      have h4 : p.1 < k := h2 0 p (by omega) rfl
      have h5 : ¬ k < p.1 := fun h => lex_irrefl _ (lex_trans h h4)
      have := ih (a := a) ⟨by simpa using h1, fun j y hj hy => h2 (j + 1) y (by omega) (by simpa using hy), fun y hy => h3 y (by simpa using hy)⟩ (fun y hy => hk y (by simp [hy]))
      simp only [mins, strK_lt, h5, decide_false, Bool.false_eq_true, if_false, List.take_succ_cons, List.drop_succ_cons, List.cons_append]
      rw [← this]
theorem place_put {l : KM} {k x : List UInt8} {a : Nat} (h : PlaceAt (mdel l k) k a) : (mdel l k).take a ++ [(k, x)] ++ (mdel l k).drop a = mput strK l k x := place_ins h fun p hp => (mem_del.1 hp).2
theorem sizeP : ∀ w, (sizeOf TPair).run Tryz.prog w = .ok 2 w := fun w => by kernel_rfl
theorem less_str (a b : List UInt8) : Op.bytesLess (strOf a).toList (strOf b).toList = decide (a < b) := by
  rw [less_eq]
  have e : ∀ s : List UInt8, (strOf s).toList = s := fun s => by simp [strOf]
  rw [e, e]
set_option maxRecDepth 100000 in
set_option maxHeartbeats 4000000 in
theorem with_any {T : Nat → Prop} {v : Value} {l : KM} {k x : List UInt8} (w : World) (h : pairK.row w T v l) (hl : l.length ≤ 10000) :
    Calls Tryz.prog 71 #[v, .string (strOf k), .string (strOf x)] w fun e w' => (∃ v', e = .returned v' ∧ pairK.row w' (since w.heap.size w') v' (mput strK l k x)) ∧ Upd [] w w' := by
  obtain ⟨i1, hi1, iz0, iz1, iz2⟩ := partsP infoP
  obtain ⟨r, hr⟩ : ∃ r, mput strK l k x = r := ⟨_, rfl⟩
  rw [hr]
  have HPL := hide (show ∀ a, PlaceAt (mdel l k) k a → (mdel l k).take a ++ [(k, x)] ++ (mdel l k).drop a = r from fun a ha => by rw [← hr]; exact place_put ha)
  clear hr
  go_enter Tryz.func71, Tryz.ntmps71
  obtain ⟨xo0, cp0, rfl, -, -, -⟩ := pair_get h
  have H := hide h
  clear h
  go_wp2_with fail
  refine (without_any w H.out (by omega)).mono ?_
  rintro e w1 ⟨⟨v1, rfl, hb⟩, hu1⟩
  have hql : (mdel l k).length ≤ l.length := len_del_le
  generalize mdel l k = q at *
  have HROW := hide (pairK.bag_row hb); have U1 := hide hu1
  obtain ⟨xo, cp, rfl, h1, h2, hg⟩ := pair_get (pairK.bag_row hb)
  have HG := hide hg
  simp only [maxLen] at h2
  clear hb hg hu1
  go_upto_block 0 with fail
  go_cut [8] (fun s wx => w1 = wx ∧ ∃ a : Nat, s = .int .i64 a ∧ PlaceAt q k a)
  case first =>
    go_wp2_with fail
    go_loop [8] (fun si => ∃ a : Nat, a ≤ q.length ∧ si = .int .i64 a ∧ ∀ j p, j < a → q[j]? = some p → p.1 < k) (fun si => q.length - (RowKit.intOf si).toNat)
    case atStart => exact ⟨0, by omega, rfl, by omega⟩
    case round =>
      obtain ⟨a, ha, rfl, hall⟩ := hrel
      have HALL := hide hall
      clear hall
      by_cases hlt : a < q.length
      · have d5 : decide ((a : Int) < q.length) = true := by simp; omega
        have d5' : decide (a < q.length) = true := by simpa using hlt
        obtain ⟨p, hp⟩ : ∃ p, q[a]? = some p := ⟨_, List.getElem?_eq_getElem hlt⟩
        obtain ⟨b, off, rfl, hb, -, hc0, hc1⟩ := HG.out a p hp
        have hls := less_str p.1 k
        have HP := hide hp
        clear hp
        by_cases hpk : p.1 < k
        · rw [decide_eq_true hpk] at hls
          have HK := hide hpk
          clear hpk
          go_wp2_with fail
          go_round
          case rel => exact ⟨a + 1, by omega, by go_num, fun j y hj hy => by
            rcases Nat.lt_or_ge j a with h | h
            · exact HALL.out j y h hy
            · rw [show j = a by omega, HP.out] at hy
              cases hy
              exact HK.out⟩
          case measure => simp [RowKit.intOf]; omega
        · rw [decide_eq_false hpk] at hls
          have HK := hide hpk
          clear hpk
          go_wp2_with fail
          go_meet
          exact ⟨rfl, a, rfl, ha, HALL.out, fun y hy => by rw [HP.out] at hy; cases hy; exact HK.out⟩
      · have d5 : decide ((a : Int) < q.length) = false := by simp; omega
        have d5' : decide (a < q.length) = false := by simpa using hlt
        have hae : a = q.length := by omega
        have HAE := hide hae
        clear hlt hae
        go_wp2_with fail
        go_meet
        exact ⟨rfl, a, rfl, ha, HALL.out, fun y hy => by have := (List.getElem?_eq_some_iff.1 hy).1; have := HAE.out; omega⟩
  case rest =>
    obtain ⟨rfl, a, rfl, hpl⟩ := hcut
    have ha : a ≤ q.length := hpl.1
    have HR := hide (HPL.out a hpl)
    clear hpl HPL
    have s5 := run_cutz_h (P := Tryz.prog) 33 TPair 2 Tryz.underlying33 sizeP xo q.length cp a (a : Int) rfl (by omega)
    obtain ⟨hn1, css1, he1, hz1, hsrc1⟩ := row_src (Row.cut HROW.out (lo := 0) (hi := a) (q := cp) (by omega) ha (by omega) (Nat.le_refl _))
    simp only [cutZ_zero, Nat.sub_zero, List.drop_zero] at he1 hsrc1
    obtain ⟨hn2, css2, he2, hz2, hsrc2⟩ := row_src (Row.cut HROW.out (lo := a) (hi := q.length) (q := cp) ha (Nat.le_refl _) (by omega) (Nat.le_refl _))
    rw [List.take_of_length_le (by simp)] at he2
    have HE1 := hide he1; have HS1 := hide hsrc1; have HE2 := hide he2; have HS2 := hide hsrc2
    clear hn1 hz1 he1 hsrc1 hn2 hz2 he2 hsrc2
    go_wp2_with (at_builtin; go_must (refine wpList_append_src _ rfl _ _ 33 rfl w1.heap.size TPair i1 (.agg #[.string ByteArray.empty, .string ByteArray.empty]) 2 32 Tryz.underlying33 hi1 iz0 iz1 iz2 rfl (by decide) (.slice none 0 0) 0 [] rfl (World.ownsRow_nil w1 w1.heap.size TPair 2) xo a cp css1.flatten rfl HS1.out (by unfold maxLen; omega) (by omega) (by omega) ?_))
    intro ao5 cap5 w5 hown5 hU5 hn5
    have bg5 := Kind.bag_mores (K := pairK) (l := []) (css := []) .nil HE1.out (by show w5.ownsRow w1.heap.size TPair 2 _ _ _; simpa using hown5) (by simp; omega) hU5 (by simpa using hn5)
    rw [List.nil_append] at bg5
    have hu5 : Upd [] w1 w5 := by simpa [Value.ownBlock] using hU5
    have hol5 := Own.lt bg5
    have s7 := run_cutz_l (P := Tryz.prog) 33 TPair 2 Tryz.underlying33 sizeP xo q.length cp a (a : Int) rfl ha
    have hal := (Upd.refl [] w5).alloc (.cells #[.string (strOf k), .string (strOf x)] TPair)
    obtain ⟨css, hcss, hrow⟩ := pairK.bag_open (pairK.bag_upd_nil bg5 hal)
    have hlt5 : (q.take a).length = a := by simp; omega
    rw [hlt5] at hrow
    have HCSS := hide hcss; have HROW5 := hide hrow; have U5 := hide hu5; have HOL5 := hide hol5
    have hz5 := hu5.size
    clear hown5 hU5 hn5 bg5 hu5 hol5 hal hcss hrow
    go_wp2_with (at_builtin; go_must (refine wpList_append_src _ rfl _ _ 33 rfl w1.heap.size TPair i1 (.agg #[.string ByteArray.empty, .string ByteArray.empty]) 2 32 Tryz.underlying33 hi1 iz0 iz1 iz2 rfl (by decide) (.slice ao5 a cap5) a css.flatten rfl HROW5.out (some ⟨w5.heap.size, 0, none⟩) 1 1 [strV k, strV x] rfl (pair_src (p := (k, x)) (blk_new _ _)) (by unfold maxLen; omega) (by omega) (by simp; omega) ?_))
    intro ao6 cap6 w6 hown6 hU6 hn6
    have bg6 := Kind.bag_more HCSS.out (K := pairK) (x := (k, x)) rfl hown6 (by rw [hlt5]) hU6 (by simpa using hn6)
    have hU6' := grown_upd hU6
    have u6 : Upd [] w1 w6 := U5.out.trans_new hU6' (fun g hm => .inr (by have := HOL5.out g (by simpa using hm); omega))
    have hol6 := Own.lt bg6
    have hs7 := srcG_upd HS2.out u6 (by simp)
    obtain ⟨css6, hcss6, hrow6⟩ := pairK.bag_open bg6
    have hlt6 : (q.take a ++ [(k, x)]).length = a + 1 := by rw [List.length_append, hlt5]; rfl
    rw [hlt6] at hrow6
    have hz6 := u6.size
    have HE2' := hide HE2.out
    have HCSS6 := hide hcss6; have HROW6 := hide hrow6; have U6 := hide u6; have HOL6 := hide hol6; have HS7 := hide hs7
    clear hown6 hU6 hU6' hn6 bg6 u6 hol6 hs7 hcss6 hrow6
    go_wp2_with (at_builtin; go_must (refine wpList_append_src _ rfl _ _ 33 rfl w1.heap.size TPair i1 (.agg #[.string ByteArray.empty, .string ByteArray.empty]) 2 32 Tryz.underlying33 hi1 iz0 iz1 iz2 rfl (by decide) (.slice ao6 (a + 1) cap6) (a + 1) css6.flatten rfl HROW6.out (cutZ 2 xo a cp) (q.length - a) (cp - a) css2.flatten rfl HS7.out (by unfold maxLen; omega) (by omega) (by omega) ?_))
    intro ao7 cap7 w7 hown7 hU7 hn7
    have bg7 := Kind.bag_mores (K := pairK) HCSS6.out HE2'.out hown7 (by rw [hlt6]; simp) hU7 (by simpa using hn7)
    rw [HR.out] at bg7
    have u7 : Upd [] w1 w7 := U6.out.trans_new hU7 (fun g hm => .inr (by have := HOL6.out g (by simpa using hm); omega))
    have BG7 := hide bg7; have U7 := hide (U1.out.trans u7)
    clear hown7 hU7 hn7 bg7 u7
    go_wp2_with fail
    go_ret
    exact ⟨⟨_, rfl, (pairK.bag_row BG7.out).mono (fun g hg => ⟨by have := hg.1; have := U1.out.size; omega, hg.2⟩) fun _ _ _ h => h⟩, U7.out⟩
end Go.Proofs.YthpnnffogbjhpaaGreatDoor.Kv
namespace Go.Proofs.YthpnnffogbjhpaaGreatDoor.Kv
set_option linter.unusedSimpArgs false
set_option linter.unusedVariables false
set_option linter.unnecessarySimpa false
open Go.RowKit Go.Lib Go.Sort Go.Proofs.YthpnnffogbjhpaaGreatDoor.Crc Go.Proofs.YthpnnffogbjhpaaGreatDoor.Cm

theorem owns_block {w : World} {base b n : Nat} {cs : Array Value} {e : TypeId} {xs : List Value} {z : Nat} (h : w.heap[b]? = some (.cells cs e (0, 0))) (hb : base ≤ b) (hc : cs.toList = xs) (hn : xs.length = n * z) (hm : n ≤ maxLen) :
    w.ownsRow base e z (.slice (some ⟨b, 0, none⟩) n n) n xs := by
  refine ⟨hn, .inr ⟨b, n, cs, rfl, hb, h, Nat.le_refl _, hm, ?_, ?_⟩⟩
  · rw [← hn, ← hc]; simp
  · rw [hc, List.take_of_length_le (by omega)]
theorem eq_nil (t e : TypeId) (h : Tryz.prog.underlying t = some (.slice e)) (xo : Option Addr) (l c : Nat) (w : World) : (binOp .eql t (.slice xo l c) (.slice none 0 0)).run Tryz.prog w = .ok (.bool xo.isNone) w := by
  have := run_equal_slice_nil (P := Tryz.prog) w t e xo l c h
  unfold binOp
  simp only [Sem.run_bind, this, Result.andThen_ok, Sem.run_pure]
theorem strs_own {w : World} {base n : Nat} {e : TypeId} {v : Value} {l : List (List UInt8)} (h : w.ownsRow base e 1 v n (l.map strV)) (hn : n = l.length) : Strs w (fun k => v.ownBlock = some k) v l := by
  obtain ⟨ao, cap, rfl, h1, h2, h3⟩ := owns_slice h
  subst hn
  refine ⟨ao, cap, rfl, src_own h (by simp [strV, Value.oneCell']), h1, h2, fun a ha hm => ?_⟩
  rcases h.2 with ⟨e2, e3⟩ | ⟨g, c, cur, e2, -⟩
  · omega
  · cases e2; cases ha; rfl
theorem infoT : (Tryz.prog.info? TStr).map (fun i => (i.zero, i.size, i.bytes)) = some (some (.string ByteArray.empty), 1, 16) := by kernel_rfl
set_option maxRecDepth 100000 in
set_option maxHeartbeats 1000000 in
theorem clone_own {T : Nat → Prop} {v : Value} {l : List (List UInt8)} (w : World) (h : Strs w T v l) (hl : l.length * 16 ≤ 140737488355328) :
    Calls Tryz.prog 171 #[v] w fun e w' => (∃ v', e = .returned v' ∧ w'.ownsRow w.heap.size TStr 1 v' l.length (l.map strV)) ∧ Upd [] w w' := by
  obtain ⟨xo, c, rfl, hs, hc, hcm, hT⟩ := h
  have hq := eq_nil 43 _ Tryz.underlying43
  cases xo with
  | none =>
    obtain ⟨h0, rfl⟩ := hs.nil rfl
    have : l = [] := List.eq_nil_of_length_eq_zero h0
    subst this
    clear hs hT
    go_enter Tryz.func171, Tryz.ntmps171
    go_wp2_with fail
    go_ret
    exact ⟨⟨_, rfl, World.ownsRow_nil _ _ _ _⟩, Upd.refl _ _⟩
  | some a =>
    have HS := hide hs
    obtain ⟨i1, hi1, hz0, hz1, hz2⟩ := partsP infoT
    clear hs hT
    go_enter Tryz.func171, Tryz.ntmps171
    go_wp2_with (at_builtin; go_must (refine wpList_append_src _ rfl _ _ 43 rfl w.heap.size 9 i1 (.string ByteArray.empty) 1 16 Tryz.underlying43 hi1 hz0 hz1 hz2 rfl (by decide) (.slice (some ⟨w.heap.size, 0, none⟩) 0 0) 0 [] rfl (owns_block (blk_new _ _) (Nat.le_refl _) rfl rfl (by decide)) (some a) l.length c (l.map strV) rfl (srcS_upd HS.out ((Upd.refl [] w).alloc _) (by simp)) (by unfold maxLen; omega) (by omega) (by simp) ?_))
    intro ao1 cap1 w1 hown1 hU1 hn1
    have hu := ((Upd.refl [] w).alloc (.cells #[] 9)).trans_new hU1 (fun k hk => .inr (by simp [Value.ownBlock] at hk; omega))
    have HU := hide hu; have HS1 := hide hown1
    clear hu hown1 hU1 hn1
    go_wp2_with fail
    go_ret
    exact ⟨⟨_, rfl, by simpa using HS1.out⟩, HU.out⟩
theorem upd_putRow {α : Type} [Inhabited α] (enc : α → Value) (w : World) (blk off : Nat) (d : Array α) : Upd [blk] w (putRow enc w blk off d) :=
  ⟨rfl, rfl, rfl, by simp, fun k hk hS => by
    have hne : blk ≠ k := fun e => hS (by simp [e])
    simp only [putRow, mapBlock]
    rw [Array.getElem?_modify, if_neg hne]⟩
theorem upd_growA {w : World} (os : Array Obj) : Upd [] w (grow w os) := by
  have := upd_grow (w := w) 0 os
  exact this
theorem holds_grow {α : Type} [Inhabited α] {enc : α → Value} {w : World} {blk off : Nat} {d : Array α} (h : Holds enc w blk off d) (hb : blk < w.heap.size) (os : Array Obj) : Holds enc (grow w os) blk off d := fun j hj => by
  obtain ⟨h1, h2⟩ := h j hj
  have e : (grow w os).heap[blk]? = w.heap[blk]? := by simp [grow, Array.getElem?_append_left hb]
  refine ⟨?_, ?_⟩
  · rw [← h1]; simp only [World.cell?, e]
  · rw [← h2]; simp only [World.frozen?, e]
theorem strs_holds {w : World} {T : Nat → Prop} {blk n cap : Nat} {ss : List (List UInt8)} (h : Holds encStr w blk 0 ss.toArray) (hn : n = ss.length) (hc : n ≤ cap) (hm : cap ≤ maxLen) (hT : T blk) : Strs w T (.slice (some ⟨blk, 0, none⟩) n cap) ss := by
  subst hn
  refine ⟨_, _, rfl, ⟨by simp, by simp [strV, Value.oneCell'], by simp, fun a e j u hj => ?_⟩, hc, hm, fun a e _ => by cases e; exact hT⟩
  cases e
  rw [show (⟨blk, 0, none⟩ : Addr).add j = ⟨blk, j, none⟩ by unfold Addr.add; split <;> simp_all]
  rw [List.getElem?_map] at hj
  obtain ⟨s, hs, rfl⟩ := Option.map_eq_some_iff.1 hj
  obtain ⟨hlt, rfl⟩ := List.getElem?_eq_some_iff.1 hs
  have := (h j (by simpa using hlt)).1
  rw [Nat.zero_add] at this
  rw [this]
  simp [strV, strOf, hlt]
theorem holds_row {w : World} {base n g cap : Nat} {l : List (List UInt8)} (h : w.ownsRow base TStr 1 (.slice (some ⟨g, 0, none⟩) n cap) n (l.map strV)) : Holds encStr w g 0 l.toArray ∧ n ≤ cap ∧ cap ≤ maxLen ∧ base ≤ g ∧ g < w.heap.size := by
  rcases h.2 with ⟨e, -⟩ | ⟨g', cap', cur, e, h1, h2, h3, h4, h5, h6⟩
  · cases e
  · cases e
    have hlen : l.length = n := by have := h.1; simpa using this
    refine ⟨fun j hj => ?_, h3, h4, h1, blk_lt h2⟩
    have hj' : j < l.length := by simpa using hj
    rw [Nat.zero_add]
    refine ⟨blk_cell h2 ?_, blk_free h2⟩
    have h7 : (l.map strV)[j]? = some (strV l[j]) := by rw [List.getElem?_map, List.getElem?_eq_getElem hj']; rfl
    rw [← h6, List.getElem?_take] at h7
    split at h7
    · rw [Array.getElem?_toList] at h7
      rw [h7]
      simp [strV, strOf, hj']
    · cases h7
theorem sortM_nil : sortM [] = [] := by simp [sortM, Lib.compact, Lib.compactUpTo]
theorem sortM_len (ks : List (List UInt8)) : (sortM ks).length ≤ ks.length := by
  have := Lib.compact_length_le (ks.mergeSort fun x y => decide (x ≤ y))
  simpa [sortM, List.length_mergeSort] using this
theorem holds_pre {w : World} {g : Nat} {a b : List (List UInt8)} (h : Holds encStr w g 0 (a ++ b).toArray) : Holds encStr w g 0 a.toArray := fun j hj => by
  have hj' : j < a.length := by simpa using hj
  have := h j (by simp; omega)
  refine ⟨?_, this.2⟩
  rw [this.1]
  simp [hj', List.getElem?_append_left hj']
set_option maxRecDepth 100000 in
set_option maxHeartbeats 2000000 in
theorem touches_any {T : Nat → Prop} {v : Value} {c : Cm} (w : World) (hc : CmAt w T v c) (hk : c.keys.length ≤ 1000000) :
    Calls Tryz.prog 156 #[v] w fun e w' => (∃ v', e = .returned v' ∧ Strs w' (since w.heap.size w') v' (sortM c.keys)) ∧ Upd [] w w' := by
  obtain ⟨fit, ks, rfl, hks⟩ := hc
  obtain ⟨xo, cp, rfl, h1, h2, hget⟩ := hks.get
  simp only [maxLen] at h2
  have KS := hide hks
  clear hget hks fit
  unfold cmv
  simp only [strV]
  obtain ⟨sk, hsk⟩ : ∃ sk, sortM c.keys = sk := ⟨_, rfl⟩
  rw [hsk]
  have SK := hide hsk
  clear hsk
  go_enter Tryz.func156, Tryz.ntmps156
  go_upto_region 1 with fail
  have hB := blk_new w (.cells (cmc c (.slice xo c.keys.length cp)).toArray TCmd)
  have hu := (Upd.refl [] w).alloc (.cells (cmc c (.slice xo c.keys.length cp)).toArray TCmd)
  change Code.wp _ _ _ _ (w.alloc (.cells (cmc c (.slice xo c.keys.length cp)).toArray TCmd))
  generalize w.alloc (.cells (cmc c (.slice xo c.keys.length cp)).toArray TCmd) = w1 at *
  have b3 : w1.cell? ⟨w.heap.size, 3, none⟩ = some (.slice xo c.keys.length cp) := blk_cell hB rfl
  have U1 := hide hu; have KS1 := hide (KS.out.upd_nil hu)
  have hz1 := hu.size
  clear hB hu
  go_wp2_with fail
  refine (clone_own w1 KS1.out (by omega)).mono ?_
  rintro e w2 ⟨⟨v2, rfl, ho⟩, hu2⟩
  have U2 := hide (U1.out.trans hu2); have OW := hide ho
  have ST2 := hide ((strs_own ho rfl).mono (U := since w.heap.size w2) (fun g hg => by have := owns_lt ho g hg; exact ⟨by omega, this.2⟩))
  obtain ⟨ao, cap, rfl, hn1, hn2, hcl⟩ := owns_slice ho
  have hz2 := U2.out.size
  simp only [maxLen] at hn2
  by_cases h0 : c.keys.length = 0
  · have hke : c.keys = [] := List.eq_nil_of_length_eq_zero h0
    have hskn : sk = [] := by rw [← SK.out, hke, sortM_nil]
    have HSK := hide hskn
    have ST3 := hide (show Strs w2 (since w.heap.size w2) (.slice ao 0 cap) [] by have := ST2.out; rw [hke] at this; simpa using this)
    rw [h0]
    clear hu2 ho b3 hcl OW h0 hke hskn ST2
    go_wp2_with fail
    refine (sh_slices_Sort_string_none ao cap w2).mono ?_
    rintro e w3 ⟨rfl, rfl⟩
    go_wp2_with fail
    refine (sh_slices_Compact_string_empty ao cap w3).mono ?_
    rintro e w4 ⟨rfl, rfl⟩
    go_wp2_with fail
    go_ret
    exact ⟨⟨_, rfl, by rw [HSK.out]; exact ST3.out⟩, U2.out⟩
  · obtain ⟨g, rfl, -, -, -⟩ := hcl 0 (strV (c.keys[0]'(by omega))) (by rw [List.getElem?_map, List.getElem?_eq_getElem (by omega)]; rfl)
    obtain ⟨hH, -, -, hgb, hgl⟩ := holds_row ho
    have hsl : (c.keys.mergeSort fun x y => decide (x ≤ y)).length = c.keys.length := List.length_mergeSort _
    have HH := hide hH; have SLN := hide hsl
    clear hu2 ho b3 hcl OW h0 hH hsl ST2
    go_wp2_with fail
    refine (sh_slices_Sort_string g 0 cap c.keys w2 HH.out hgl (by omega)).mono ?_
    rintro e w3 ⟨rfl, n, os, rfl⟩
    have hh3 := holds_grow (holds_putRow encStr (Sort.ahead w2 n) g 0 c.keys.toArray (c.keys.mergeSort fun x y => decide (x ≤ y)).toArray (holds_ahead _ _ _ _ _ _ HH.out) (by simpa using SLN.out)) (by simpa using hgl) os
    have hu3 : Upd [g] w2 (grow (putRow encStr (Sort.ahead w2 n) g 0 (c.keys.mergeSort fun x y => decide (x ≤ y)).toArray) os) :=
      (((Upd.refl [g] w2).drewN n).trans (upd_putRow encStr (Sort.ahead w2 n) g 0 _)).trans ((upd_growA os).mono (by simp))
    generalize grow (putRow encStr (Sort.ahead w2 n) g 0 (c.keys.mergeSort fun x y => decide (x ≤ y)).toArray) os = w3 at *
    have HH3 := hide hh3; have U3 := hide hu3
    have hcp := sh_slices_Compact_string g 0 cap (c.keys.mergeSort fun x y => decide (x ≤ y)) w3 hh3 (by rw [SLN.out]; omega) (by rw [SLN.out]; omega)
    rw [SLN.out] at hcp
    have HCP := hide hcp
    clear hh3 hu3 hcp
    go_wp2_with fail
    refine HCP.out.mono ?_
    rintro e w4 ⟨rfl, q, rfl⟩
    have hlen := sortM_len c.keys
    have hh4 := holds_pre (holds_putRow encStr (Sort.ahead w3 q) g 0 (c.keys.mergeSort fun x y => decide (x ≤ y)).toArray (d := (Lib.compact (c.keys.mergeSort fun x y => decide (x ≤ y)) ++ List.replicate (c.keys.length - (Lib.compact (c.keys.mergeSort fun x y => decide (x ≤ y))).length) []).toArray) (holds_ahead _ _ _ _ _ _ HH3.out) (by
      have h5 : (Lib.compact (c.keys.mergeSort fun x y => decide (x ≤ y))).length ≤ c.keys.length := hlen
      have := SLN.out
      simp
      omega))
    have hu4 : Upd [g] w3 (putRow encStr (Sort.ahead w3 q) g 0 (Lib.compact (c.keys.mergeSort fun x y => decide (x ≤ y)) ++ List.replicate (c.keys.length - (Lib.compact (c.keys.mergeSort fun x y => decide (x ≤ y))).length) []).toArray) :=
      ((Upd.refl [g] w3).drewN q).trans (upd_putRow encStr (Sort.ahead w3 q) g 0 _)
    generalize putRow encStr (Sort.ahead w3 q) g 0 (Lib.compact (c.keys.mergeSort fun x y => decide (x ≤ y)) ++ List.replicate (c.keys.length - (Lib.compact (c.keys.mergeSort fun x y => decide (x ≤ y))).length) []).toArray = w4 at *
    have U4 := hide (U2.out.trans_new (U3.out.trans hu4) (fun k hk => .inr (by simp at hk; omega)))
    have hz4 := hu4.size
    have hz3 := U3.out.size
    have ST4 := hide (show Strs w4 (since w.heap.size w4) (.slice (some ⟨g, 0, none⟩) (sortM c.keys).length cap) (sortM c.keys) from strs_holds hh4 rfl (by omega) (by unfold maxLen; omega) ⟨by omega, by omega⟩)
    rw [show Lib.compact (c.keys.mergeSort fun x y => decide (x ≤ y)) = sk from SK.out]
    rw [SK.out] at ST4
    clear hh4 hu4 HCP HH3 HH hlen
    go_wp2_with fail
    go_ret
    exact ⟨⟨_, rfl, ST4.out⟩, U4.out⟩
end Go.Proofs.YthpnnffogbjhpaaGreatDoor.Kv
namespace Go.Proofs.YthpnnffogbjhpaaGreatDoor.Kv
set_option linter.unusedSimpArgs false
set_option linter.unusedVariables false
set_option linter.unnecessarySimpa false
open Go.RowKit Go.Proofs.YthpnnffogbjhpaaGreatDoor.Crc Go.Proofs.YthpnnffogbjhpaaGreatDoor.Cm

theorem str_src {w : World} {b : Nat} {s : List UInt8} {t : TypeId} (h : w.heap[b]? = some (.cells #[.string (strOf s)] t (0, 0))) : SrcAt w (some ⟨b, 0, none⟩) 1 1 [strV s] 1 := by
  refine ⟨rfl, by simp [strV, Value.oneCell'], by simp, fun a e j u hj => ?_⟩
  cases e
  rw [show (⟨b, 0, none⟩ : Addr).add j = ⟨b, j, none⟩ by unfold Addr.add; split <;> simp_all]
  simp only [World.cell?, h]
  simpa [strV] using hj
theorem fst_next {P : KM} {j : Nat} {p : List UInt8 × List UInt8} (h : P[j]? = some p) : (P.take (j + 1)).map (·.1) = (P.take j).map (·.1) ++ [p.1] := by
  rw [List.take_add_one, h]
  simp
set_option maxRecDepth 100000 in
set_option maxHeartbeats 4000000 in
theorem rtouch_any {T : Nat → Prop} {v : Value} {c : Cm} (w : World) (hc : CmAt w T v c) (hk : c.keys.length ≤ 1000) :
    Calls Tryz.prog 109 #[v] w fun e w' => (∃ v', e = .returned v' ∧ Strs w' (since w.heap.size w') v' (sortM c.keys)) ∧ Upd [] w w' := by
  obtain ⟨fit, ks, rfl, hks⟩ := hc
  obtain ⟨xo, cp, rfl, h1, h2, hget⟩ := hks.get
  simp only [maxLen] at h2
  have KG := hide hget
  obtain ⟨i1, hi1, iz0, iz1, iz2⟩ := partsP infoT
  clear hget hks fit
  unfold cmv
  simp only [strV]
  obtain ⟨sk, hsk⟩ : ∃ sk, sortM c.keys = sk := ⟨_, rfl⟩
  rw [hsk]
  have SK := hide hsk
  clear hsk
  go_enter Tryz.func109, Tryz.ntmps109
  go_upto_region 1 with fail
  have hB := blk_new w (.cells (cmc c (.slice xo c.keys.length cp)).toArray TCmd)
  have hu := (Upd.refl [] w).alloc (.cells (cmc c (.slice xo c.keys.length cp)).toArray TCmd)
  change Code.wp _ _ _ _ (w.alloc (.cells (cmc c (.slice xo c.keys.length cp)).toArray TCmd))
  have hzB : (w.alloc (.cells (cmc c (.slice xo c.keys.length cp)).toArray TCmd)).heap.size = w.heap.size + 1 := by simp
  generalize w.alloc (.cells (cmc c (.slice xo c.keys.length cp)).toArray TCmd) = w1 at *
  have CB := hide hB; have U1 := hide hu
  obtain ⟨B, hBs⟩ : ∃ B, w.heap.size = B := ⟨_, rfl⟩
  have KB := hide hBs
  rw [hBs] at CB hzB ⊢
  clear hB hu hBs
  go_wp2_with fail
  go_loopw [3, 4] (fun so si wr => ∃ i : Nat, i ≤ c.keys.length ∧ si = .int .i64 i ∧ pairK.row wr (since B wr) so (touchP (c.keys.take i)) ∧ Upd [] w1 wr) (fun _ si _ => c.keys.length - (RowKit.intOf si).toNat)
  case atStart => exact ⟨0, by omega, rfl, pairK.row_nil _ _, Upd.refl _ _⟩
  case round =>
    obtain ⟨i, hi, rfl, hrow, hui⟩ := hrel
    have RW := hide hrow; have UI := hide hui
    have UR := hide (U1.out.trans hui)
    obtain ⟨po, pc, rfl, hp1, hp2⟩ := Row.slice hrow
    have b3 : wr.cell? ⟨B, 3, none⟩ = some (.slice xo c.keys.length cp) := blk_cell (hui.get CB.out (by simp)) rfl
    have htl := touchP_len (c.keys.take i)
    rw [List.length_take] at htl
    have hzr := hui.size
    clear hrow hui
    by_cases hlt : i < c.keys.length
    · have d5 : decide ((i : Int) < c.keys.length) = true := by simp; omega
      have d5' : decide (i < c.keys.length) = true := by simpa using hlt
      obtain ⟨k, hik⟩ : ∃ k, c.keys[i]? = some k := ⟨_, List.getElem?_eq_getElem hlt⟩
      obtain ⟨bk, ok, rfl, hbk, hkc⟩ := KG.out i k hik
      have c1 := cell_upd hkc UR.out (by simp)
      have HN := hide (touchP_next hik)
      have hwt := with_any (k := k) (x := []) wr RW.out (by omega)
      rw [← HN.out] at hwt
      have HWT := hide hwt
      clear hik hkc hwt
      go_wp2_with fail
      refine HWT.out.mono ?_
      rintro e w2 ⟨⟨v2, rfl, hr2⟩, hu2⟩
      have R2 := hide (pairK.row_mono (U := since B w2) hr2 (fun g hg => ⟨by have := hg.1; omega, hg.2⟩)); have U2 := hide (UI.out.trans hu2)
      obtain ⟨qo, qc, rfl, -, -⟩ := Row.slice hr2
      clear hr2 hu2 b3 c1
      go_wp2_with fail
      go_roundw
      case rel => exact ⟨i + 1, by omega, by go_num, R2.out, U2.out⟩
      case measure => simp [RowKit.intOf]; omega
    · have d5 : decide ((i : Int) < c.keys.length) = false := by simp; omega
      have d5' : decide (i < c.keys.length) = false := by simpa using hlt
      have hie : c.keys.take i = c.keys := List.take_of_length_le (by omega)
      have hts : (touchP c.keys).map (·.1) = sk := by rw [touch_same, SK.out]
      rw [hie] at RW
      obtain ⟨P, hP⟩ : ∃ P, touchP c.keys = P := ⟨_, rfl⟩
      rw [hie, hP] at htl
      rw [hie, hP]
      rw [hP] at RW hts
      obtain ⟨po', pc', hpe, hp1', hp2', hg⟩ := pair_get RW.out
      cases hpe
      have HG := hide hg; have HTS := hide hts; have UR' := hide UR.out
      clear hlt hie hts hP hg
      obtain ⟨wo, hwo⟩ : ∃ x, x = wr := ⟨_, rfl⟩
      rw [← hwo] at HG UI UR hzr b3 ⊢
      clear UR' RW hwo
      go_wp2_with fail
      go_loopw [5, 6] (fun so si wr => ∃ (j : Nat) (L : List (List UInt8)), L = (P.take j).map (·.1) ∧ j ≤ P.length ∧ si = .int .i64 j ∧ wr.ownsRow wo.heap.size TStr 1 so j (L.map strV) ∧ Upd [] wo wr) (fun _ si _ => P.length - (RowKit.intOf si).toNat)
      case atStart => exact ⟨0, [], rfl, by omega, rfl, World.ownsRow_nil _ _ _ _, Upd.refl _ _⟩
      case round =>
        obtain ⟨j, L, hL, hj, rfl, ho, huj⟩ := hrel
        have HL := hide hL
        clear hL
        have OW := hide ho; have UJ := hide huj
        obtain ⟨ao, cap, rfl, hn1, hn2, -⟩ := owns_slice ho
        have hol := owns_lt ho
        have HOL := hide hol
        have hzj := huj.size
        clear ho huj hol
        by_cases hlj : j < P.length
        · have d6 : decide ((j : Int) < P.length) = true := by simp; omega
          have d6' : decide (j < P.length) = true := by simpa using hlj
          obtain ⟨p, hpj⟩ : ∃ p, P[j]? = some p := ⟨_, List.getElem?_eq_getElem hlj⟩
          obtain ⟨b2, o2, rfl, hb2, -, hc0, hc1⟩ := HG.out j p hpj
          have c0 := cell_upd hc0 UJ.out (by simp)
          have HF := hide (fst_next hpj)
          have hal := (Upd.refl [] wr).alloc (.cells #[.string (strOf p.1)] 9)
          have OW1 := hide (owns_upd OW.out hal (by simp))
          clear hpj hc0 hc1 hal
          go_wp2_with (at_builtin; go_must (refine wpList_append_src _ rfl _ _ 43 rfl wo.heap.size 9 i1 (.string ByteArray.empty) 1 16 Tryz.underlying43 hi1 iz0 iz1 iz2 rfl (by decide) (.slice ao j cap) j (L.map strV) rfl OW1.out (some ⟨wr.heap.size, 0, none⟩) 1 1 [strV p.1] rfl (str_src (blk_new _ _)) (by unfold maxLen; omega) (by omega) (by simp; omega) ?_))
          intro ao6 cap6 w6 hown6 hU6 hn6
          have hU6' := grown_upd hU6
          have u6 := UJ.out.trans_new hU6' (fun g hm => .inr (by have := HOL.out g (by simpa using hm); omega))
          have O6 := hide (show w6.ownsRow wo.heap.size TStr 1 (.slice ao6 (j + 1) cap6) (j + 1) ((L ++ [p.1]).map strV) by rw [List.map_append]; exact hown6)
          have HL6 := hide (show L ++ [p.1] = (P.take (j + 1)).map (·.1) by rw [HF.out, HL.out])
          have U6 := hide u6
          clear hown6 hU6 hU6' hn6 u6 c0
          go_wp2_with fail
          go_roundw
          case rel => exact ⟨j + 1, L ++ [p.1], HL6.out, by omega, by go_num, O6.out, U6.out⟩
          case measure => simp [RowKit.intOf]; omega
        · have d6 : decide ((j : Int) < P.length) = false := by simp; omega
          have d6' : decide (j < P.length) = false := by simpa using hlj
          have hje : P.take j = P := List.take_of_length_le (by omega)
          have ho := OW.out
          rw [HL.out, hje, HTS.out] at ho
          have hsl : j = sk.length := by rw [← HTS.out]; simp; omega
          have ST := hide ((strs_own ho hsl).mono (U := since B wr) (fun g hg => by have := HOL.out g hg; exact ⟨by omega, this.2⟩))
          have UF := hide (UR.out.trans UJ.out)
          clear hlj hje ho hsl
          go_wp2_with fail
          go_ret
          exact ⟨⟨_, rfl, by rw [KB.out]; exact ST.out⟩, UF.out⟩
end Go.Proofs.YthpnnffogbjhpaaGreatDoor.Kv
