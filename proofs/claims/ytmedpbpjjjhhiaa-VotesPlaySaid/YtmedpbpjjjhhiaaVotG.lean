/- The document's Spans. -/
import Derived.Test.YtmedpbpjjjhhiaaVotF
namespace Go.Proofs.Ytmedpbpjjjhhiaa.Vot
open Go.RowKit

abbrev TRSp : TypeId := 68
theorem infoRSp : (Try.prog.info? TRSp).map (fun i => (i.zero, i.size, i.bytes)) = some (some (.agg #[.int .i64 0, .int .i64 0]), 2, 16) := by kernel_rfl
def spi (p : Sp) : List Value := [.int .i64 (p.1 : Int), .int .i64 (p.2 : Int)]
theorem spi_len (l : List Sp) : (l.flatMap spi).length = l.length * 2 := by
  induction l with
  | nil => rfl
  | cons p l ih => rw [List.flatMap_cons, List.length_append, ih, List.length_cons]; simp [spi]; omega
theorem spi_get {l : List Sp} {i : Nat} {p : Sp} (h : l[i]? = some p) : (l.flatMap spi)[i * 2]? = some (.int .i64 (p.1 : Int)) ∧ (l.flatMap spi)[i * 2 + 1]? = some (.int .i64 (p.2 : Int)) := by
  induction l generalizing i with
  | nil => simp at h
  | cons q l ih =>
    rw [List.flatMap_cons]
    cases i with
    | zero =>
      simp at h
      subst h
      simp [spi]
    | succ i =>
      have h1 := ih (by simpa using h)
      have e1 : (i + 1) * 2 = (spi q).length + i * 2 := by simp [spi]; omega
      have e2 : (i + 1) * 2 + 1 = (spi q).length + (i * 2 + 1) := by simp [spi]; omega
      rw [e2, e1, List.getElem?_append_right (by omega), List.getElem?_append_right (by omega), Nat.add_sub_cancel_left, Nat.add_sub_cancel_left]
      exact h1
theorem spi_last (o : List Sp) (p : Sp) (x : Nat) : ((o ++ [p]).flatMap spi).set (o.length * 2 + 1) (.int .i64 (x : Int)) = (o ++ [(p.1, x)]).flatMap spi := by
  rw [List.flatMap_append, List.flatMap_append, List.set_append_right _ _ (by rw [spi_len]; omega), spi_len]
  congr 1
  rw [show o.length * 2 + 1 - o.length * 2 = 1 by omega]
  rfl
theorem rowi_get {e : TypeId} {w : World} {base : Nat} {v : Value} {l : List Sp} (h : w.ownsRow base e 2 v l.length (l.flatMap spi)) : ∃ ao cap, v = .slice ao l.length cap ∧ l.length ≤ cap ∧ cap ≤ maxLen ∧ ∀ i p, l[i]? = some p → ∃ g, ao = some ⟨g, 0, none⟩ ∧ base ≤ g ∧ g < w.heap.size ∧ w.cell? ⟨g, i * 2, none⟩ = some (.int .i64 (p.1 : Int)) ∧ w.cell? ⟨g, i * 2 + 1, none⟩ = some (.int .i64 (p.2 : Int)) := by
  obtain ⟨ao, cap, rfl, h1, h2, h3⟩ := owns_slice h
  refine ⟨ao, cap, rfl, h1, h2, fun i p hi => ?_⟩
  obtain ⟨h4, h5⟩ := spi_get hi
  obtain ⟨g, rfl, hg, hl, hc⟩ := h3 _ _ h4
  obtain ⟨g', e, -, -, hc'⟩ := h3 _ _ h5
  cases e
  exact ⟨g, rfl, hg, hl, hc, hc'⟩
theorem own_set2 {w : World} {base g n cap j size : Nat} {e : TypeId} {xs : List Value} (h : w.ownsRow base e size (.slice (some ⟨g, 0, none⟩) n cap) n xs) (u : Value) :
    (w.setCell ⟨g, j, none⟩ u).ownsRow base e size (.slice (some ⟨g, 0, none⟩) n cap) n (xs.set j u) ∧ w.frozen? ⟨g, j, none⟩ = false := by
  obtain ⟨h1, h2⟩ := h
  rcases h2 with ⟨h2, -⟩ | ⟨g', cap', cur, hv, hb, hg, hnc, hcm, hcs, htk⟩
  · cases h2
  · cases hv
    refine ⟨⟨by rw [List.length_set]; exact h1, .inr ⟨g, cap, _, rfl, hb, blk_set hg u, hnc, hcm, by simpa using hcs, ?_⟩⟩, blk_free hg⟩
    rw [← htk, Array.toList_setIfInBounds, List.take_set]
/-- The spans of a replica, up to i. -/
structure Seen (floor : Nat) (f : Nat → Bool) (i : Nat) (o : List Sp) : Prop where
  norm : Norm o
  low : ∀ p ∈ o, p.2 < i
  mem : ∀ m, inS o m ↔ floor < m ∧ m < i ∧ f m = true
theorem Seen.nil (floor : Nat) (f : Nat → Bool) : Seen floor f (floor + 1) [] := ⟨norm_nil, fun p hp => (by cases hp), fun m => ⟨fun h => absurd h inS_nil, fun h => by omega⟩⟩
theorem Seen.skip {floor i : Nat} {f : Nat → Bool} {o : List Sp} (h : Seen floor f i o) (hf : f i = false) : Seen floor f (i + 1) o := by
  refine ⟨h.norm, fun p hp => by have := h.low p hp; omega, fun m => ?_⟩
  rw [h.mem m]
  constructor
  · rintro ⟨h1, h2, h3⟩; exact ⟨h1, by omega, h3⟩
  · rintro ⟨h1, h2, h3⟩
    refine ⟨h1, ?_, h3⟩
    by_cases e : m = i
    · rw [e, hf] at h3; cases h3
    · omega
theorem norm_snoc {o : List Sp} {p : Sp} : Norm (o ++ [p]) ↔ Norm o ∧ p.1 ≤ p.2 ∧ ∀ q ∈ o, q.2 + 1 < p.1 := by
  unfold Norm
  rw [List.pairwise_append]
  constructor
  · rintro ⟨⟨h1, -, h3⟩, h4⟩
    exact ⟨⟨h1, fun q hq => h4 q (by simp [hq])⟩, h4 p (by simp), fun q hq => h3 q hq p (by simp)⟩
  · rintro ⟨⟨h1, h2⟩, h3, h4⟩
    refine ⟨⟨h1, List.pairwise_singleton _ _, fun q hq p' hp' => ?_⟩, fun q hq => ?_⟩
    · rw [List.mem_singleton.1 hp']; exact h4 q hq
    · rcases List.mem_append.1 hq with h5 | h5
      · exact h2 q h5
      · rw [List.mem_singleton.1 h5]; exact h3
theorem Seen.new {floor i : Nat} {f : Nat → Bool} {o : List Sp} (h : Seen floor f i o) (hf : f i = true) (hi : floor < i) (hl : ∀ p ∈ o, p.2 + 1 < i) : Seen floor f (i + 1) (o ++ [(i, i)]) := by
  refine ⟨norm_snoc.2 ⟨h.norm, Nat.le_refl _, hl⟩, fun p hp => ?_, fun m => ?_⟩
  · rcases List.mem_append.1 hp with h1 | h1
    · have := h.low p h1; omega
    · rw [List.mem_singleton.1 h1]; simp
  · rw [inS_append, inS1, h.mem m]
    constructor
    · rintro (⟨h1, h2, h3⟩ | h1)
      · exact ⟨h1, by omega, h3⟩
      · have e : m = i := by omega
        subst e; exact ⟨hi, by omega, hf⟩
    · rintro ⟨h1, h2, h3⟩
      by_cases e : m = i
      · exact .inr (by omega)
      · exact .inl ⟨h1, by omega, h3⟩
theorem Seen.grow {floor i : Nat} {f : Nat → Bool} {o : List Sp} {p : Sp} (h : Seen floor f i (o ++ [p])) (hf : f i = true) (hi : floor < i) (hl : p.2 + 1 = i) : Seen floor f (i + 1) (o ++ [(p.1, i)]) := by
  obtain ⟨h1, h2, h3⟩ := norm_snoc.1 h.norm
  refine ⟨norm_snoc.2 ⟨h1, by simp only; omega, h3⟩, fun q hq => ?_, fun m => ?_⟩
  · rcases List.mem_append.1 hq with h4 | h4
    · have := h.low q (List.mem_append_left _ h4); omega
    · rw [List.mem_singleton.1 h4]; simp
  · have hm := h.mem m
    rw [inS_append, inS_cons] at hm
    rw [inS_append, inS1]
    have hnil : ¬ inS [] m := inS_nil
    constructor
    · rintro (h4 | h4)
      · obtain ⟨h5, h6, h7⟩ := hm.1 (.inl h4); exact ⟨h5, by omega, h7⟩
      · by_cases e : m = i
        · subst e; exact ⟨hi, by omega, hf⟩
        · obtain ⟨h5, h6, h7⟩ := hm.1 (.inr (.inl (by omega))); exact ⟨h5, by omega, h7⟩
    · rintro ⟨h4, h5, h6⟩
      by_cases e : m = i
      · exact .inr (by omega)
      · rcases hm.2 ⟨h4, by omega, h6⟩ with h7 | h7 | h7
        · exact .inl h7
        · exact .inr (by omega)
        · exact absurd h7 hnil
set_option maxRecDepth 100000 in
set_option maxHeartbeats 2000000 in
theorem rspans_any {B R D cap n floor r : Nat} {b : Nat → Nat} {st : Nat → Nat → Bool} (w : World) (h : RefIn w B R D cap n floor b st) (hr : r < n) :
    Calls Try.prog 22 #[.pointer (some ⟨R, 0, none⟩), .int .i64 (r : Int)] w fun e w' => ∃ (L : List Sp) (ao : Option Addr) (c : Nat), e = .returned (.slice ao L.length c) ∧ w'.ownsRow w.heap.size TRSp 2 (.slice ao L.length c) L.length (L.flatMap spi) ∧ Seen floor (st r) 201 L ∧ Upd [] w w' := by
  have hcm := h.cm
  have hnc := h.nc
  have hfl := h.fl
  simp only [maxLen] at hcm
  have hcf : w.cell? ⟨R, 1, none⟩ = some (.int .i64 (floor : Int)) := blk_cell h.hR rfl
  have w0 : IntKind.i64.wrap ((floor : Int) + 1) = ((floor + 1 : Nat) : Int) := by rw [IntWalk.i64_in _ (by omega)]; omega
  obtain ⟨i1, hi1, hy0, hy1, hy2⟩ := info_parts' infoRSp
  have H := hide h
  clear h
  go_enter Try.func22, Try.ntmps22
  go_wp2_with fail
  clear hcf
  go_loopw [5, 6] (fun so si wr => ∃ (i q : Nat) (bo : Option Addr) (bc : Nat) (o : List Sp), floor + 1 ≤ i ∧ i ≤ 201 ∧ si = .int .i64 (i : Int) ∧ so = .slice bo q bc ∧ q = o.length ∧ q ≤ i ∧ wr.ownsRow w.heap.size TRSp 2 (.slice bo q bc) q (o.flatMap spi) ∧ Seen floor (st r) i o ∧ Upd [] w wr) (fun _ si _ => 201 - (intOf si).toNat)
  case atStart => exact ⟨floor + 1, 0, none, 0, [], Nat.le_refl _, by omega, by first | rfl | go_num, rfl, rfl, by omega, World.ownsRow_nil w w.heap.size TRSp 2, Seen.nil _ _, Upd.refl _ _⟩
  case round =>
    obtain ⟨i, q, bo, bc, o, hi1', hi2, rfl, rfl, hq, hqi, hrow, hseen, hu⟩ := hrel
    have HU := hide hu; have HRW := hide hrow; have HQ := hide hq; have SE := hide hseen
    clear hu hrow hq hseen
    by_cases hlt : i ≤ 200
    · have d1 : decide ((i : Int) ≤ 200) = true := by simp; omega
      have d1' : decide (i ≤ 200) = true := by simpa using hlt
      have HR := H.out.quiet HU.out
      obtain ⟨cs, hD, hcs⟩ := HR.hD
      obtain ⟨bs, hb, hbs⟩ := HR.row r hr
      have hc0 : wr.cell? ⟨R, 0, none⟩ = some (.slice (some ⟨D, 0, none⟩) n cap) := blk_cell HR.hR rfl
      have hc1 : wr.cell? ⟨D, r, none⟩ = some (.slice (some ⟨b r, 0, none⟩) 202 202) := blk_cell hD (hcs r hr)
      have hc2 : wr.cell? ⟨b r, i, none⟩ = some (.bool (st r i)) := blk_cell hb (hbs i (by omega))
      have hi3 : i < 202 := by omega
      clear hD hcs hb hbs HR
      cases hst : st r i with
      | false =>
        rw [hst] at hc2
        have SK := hide (SE.out.skip hst)
        clear hst
        go_wp2_with fail
        go_roundw
        case rel => exact ⟨i + 1, q, bo, bc, o, by omega, by omega, by go_num, rfl, HQ.out, by omega, HRW.out, SK.out, HU.out⟩
        case measure => simp [intOf] <;> omega
      | true =>
        rw [hst] at hc2
        have ST := hide hst
        clear hst
        have wi : IntKind.i64.wrap ((i : Int) - 1) = ((i - 1 : Nat) : Int) := by rw [IntWalk.i64_in _ (by omega)]; omega
        have app : ∀ (P : Prop), P → P := fun _ h => h
        clear app
        rcases List.eq_nil_or_concat o with rfl | ⟨o0, p, hoc⟩
        · have q0 : q = 0 := HQ.out
          subst q0
          have NW := hide (SE.out.new ST.out (by omega) (fun p hp => by cases hp))
          go_wp2_with (at_builtin; go_must (refine wpList_append_src _ rfl _ _ 65 rfl w.heap.size TRSp i1 (.agg #[.int .i64 0, .int .i64 0]) 2 16 Try.underlying65 hi1 hy0 hy1 hy2 rfl (by decide) (.slice bo 0 bc) 0 [] rfl (owns_upd HRW.out ((Upd.refl [] wr).alloc _) (by simp)) (some ⟨wr.heap.size, 0, none⟩) 1 1 [.int .i64 (i : Int), .int .i64 (i : Int)] rfl (src_two rfl rfl) (by unfold maxLen; omega) (by omega) (Nat.le_trans HU.out.size (by simp)) ?_))
          intro bo3 bc3 w3 hown3 hU3 hn3
          have U3 := hide ((HU.out.alloc _).trans_new hU3 (fun k hk => by
            simp only [Option.mem_toList] at hk
            exact .inr (owns_lt HRW.out k hk).1))
          have O3 := hide hown3
          clear hown3 hU3 hn3
          go_wp2_with fail
          go_roundw
          case rel => exact ⟨i + 1, 1, bo3, bc3, [(i, i)], by omega, by omega, by go_num, rfl, rfl, by omega, O3.out, NW.out, U3.out⟩
          case measure => simp [intOf] <;> omega
        · rw [List.concat_eq_append] at hoc
          subst hoc
          have hq1 : q = o0.length + 1 := by have := HQ.out; simpa using this
          have wq : IntKind.i64.wrap ((q : Int) - 1) = (o0.length : Int) := by rw [IntWalk.i64_in _ (by omega)]; omega
          have dq : decide ((0 : Int) < (q : Int)) = true := by simp; omega
          have dq' : decide (0 < q) = true := by simp; omega
          have hown : wr.ownsRow w.heap.size TRSp 2 (.slice bo (o0 ++ [p]).length bc) (o0 ++ [p]).length ((o0 ++ [p]).flatMap spi) := by
            have h5 := HRW.out
            have h6 := HQ.out
            rw [← h6]; exact h5
          obtain ⟨ao', cap', e1, g1, g2, g3⟩ := rowi_get hown
          cases e1
          obtain ⟨g, rfl, hgl, -, -, hcp⟩ := g3 o0.length p (by simp)
          have hol : o0.length < q := by omega
          have hqc : q ≤ bc := by rw [hq1]; simpa using g1
          simp only [maxLen] at g2
          obtain ⟨hset, hfz⟩ := own_set2 (j := o0.length * 2 + 1) hown (.int .i64 (i : Int))
          rw [spi_last] at hset
          have HSET := hide hset
          clear g3 g1 hset hown
          by_cases hl : p.2 + 1 = i
          · have qe : ((p.2 : Int) == ((i - 1 : Nat) : Int)) = true := by simp; omega
            have GR := hide (SE.out.grow (o := o0) (p := p) (by simpa using ST.out) (by omega) hl)
            clear hl
            go_wp2_with fail
            go_roundw
            case rel => exact ⟨i + 1, q, some ⟨g, 0, none⟩, bc, o0 ++ [(p.1, i)], by omega, by omega, by go_num, rfl, by rw [hq1]; simp, by omega, by have := HSET.out; simp only [List.length_append, List.length_singleton] at this; rw [hq1]; exact this, GR.out, HU.out.setCell (.inr hgl) _⟩
            case measure => simp [intOf] <;> omega
          · have qe : ((p.2 : Int) == ((i - 1 : Nat) : Int)) = false := by simp; omega
            have hlow : ∀ x ∈ o0 ++ [p], x.2 + 1 < i := by
              intro x hx
              have h1 := SE.out.low x hx
              obtain ⟨-, -, h4⟩ := norm_snoc.1 SE.out.norm
              rcases List.mem_append.1 hx with h5 | h5
              · have h6 := h4 x h5
                have h7 := SE.out.low p (by simp)
                have h8 := SE.out.norm.2 p (by simp)
                omega
              · rw [List.mem_singleton.1 h5] at h1 ⊢; omega
            have NW := hide (SE.out.new (by simpa using ST.out) (by omega) hlow)
            obtain ⟨xs, hxs⟩ : ∃ xs, xs = (o0 ++ [p]).flatMap spi := ⟨_, rfl⟩
            have HRX : Hid (wr.ownsRow w.heap.size TRSp 2 (.slice (some ⟨g, 0, none⟩) q bc) q xs) := by rw [hxs]; exact HRW.out
            have XS := hide hxs; have Q1 := hide hq1
            clear hl hlow hxs hq1
            go_wp2_with (at_builtin; go_must (refine wpList_append_src _ rfl _ _ 65 rfl w.heap.size TRSp i1 (.agg #[.int .i64 0, .int .i64 0]) 2 16 Try.underlying65 hi1 hy0 hy1 hy2 rfl (by decide) (.slice (some ⟨g, 0, none⟩) q bc) q xs rfl (owns_upd HRX.out ((Upd.refl [] wr).alloc _) (by simp)) (some ⟨wr.heap.size, 0, none⟩) 1 1 [.int .i64 (i : Int), .int .i64 (i : Int)] rfl (src_two rfl rfl) (by unfold maxLen; omega) (by omega) (Nat.le_trans HU.out.size (by simp)) ?_))
            intro bo3 bc3 w3 hown3 hU3 hn3
            have U3 := hide ((HU.out.alloc _).trans_new hU3 (fun k hk => by
              simp only [Option.mem_toList] at hk
              exact .inr (owns_lt HRX.out k hk).1))
            have O3 := hide hown3
            clear hown3 hU3 hn3
            go_wp2_with fail
            go_roundw
            case rel => exact ⟨i + 1, q + 1, bo3, bc3, (o0 ++ [p]) ++ [(i, i)], by omega, by omega, by go_num, rfl, by rw [Q1.out]; simp, by omega, by rw [List.flatMap_append, ← XS.out]; exact O3.out, NW.out, U3.out⟩
            case measure => simp [intOf] <;> omega
    · have d1 : decide ((i : Int) ≤ 200) = false := by simp; omega
      have d1' : decide (i ≤ 200) = false := by simpa using hlt
      have e1 : i = 201 := by omega
      subst e1
      go_wp2_with fail
      go_ret
      have hq2 := HQ.out
      subst hq2
      exact ⟨o, bo, bc, rfl, HRW.out, SE.out, HU.out⟩
end Go.Proofs.Ytmedpbpjjjhhiaa.Vot
