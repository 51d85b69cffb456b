/- The law RingPlays (a ring behind acts answers as a table of slots does), proved for every room and every list of acts: no condition. -/
import Derived.Test.YtmgdhloehkdffaaLawKit
import Derived.Test.YtmgdhloehkdffaaRingPl
namespace Go.Proofs.Ytmgdhloehkdffaa.RingPlP
open Go.ChangeShapes Go.WideShapes Go.ChangeAt Go.RowKit Go.Deep

set_option maxRecDepth 100000 in
theorem lifted (os : Os) (started : os.Started) (H : Type) (enc : TypeId × Value → H) :
    ReturnsInHanded {} Try.checked os 3 .any (Rows.ringPlaysSpec.pre6 enc Try.prog Try.f3 Rows.ringPlaysRow.domain false) (Rows.ringPlaysSpec.post enc Try.prog Try.f3 false true false false) := by
  refine returnsInHanded_of_change (C := Try.checked) Try.own started (by kernel_rfl) Try.func3
    (ChangeSpec.witness6 (enc := enc) (C := Try.checked) false ⟨#[], #[.int .i64 0, .slice none 0 0], []⟩ 8 (by kernel_rfl) (by kernel_rfl) (by kernel_rfl) (by kernel_rfl)) ?_
  intro W base args ds gs before hval0 hW hcnd _
  have hval : ∀ (j : Nat) t v, Try.f3.params[j]? = some t → args[j]? = some v → Value.okWide Try.prog W .any base t v := hval0
  have hW0 : DataW.Whole enc Try.prog Try.f3.params.toList Rows.ringPlaysSpec.vars false W args.toList ds gs before := hW
  have hlt : ∀ x ∈ before, x.block < W.heap.size := fun x hx => hW.lt x hx
  obtain ⟨p, q, hA0, hV, rfl, hfz, hnd⟩ := hW
  have hA : DataW.TrodAll enc Try.prog W 0 (fun _ => true) true Try.f3.params.toList args.toList ds p := hA0
  rw [Try.params3] at hA hval
  obtain ⟨v0, v1, d0, d1, p0, p1, rfl, rfl, rfl, h0, h1⟩ := trodAll_two hA
  obtain ⟨room, rfl, rfl, rfl, wa⟩ := open_int Try.underlying3 (hval 0 3 v0 rfl rfl) h0
  have ba := bounds_i64 wa
  obtain ⟨ao, len, cap, rfl⟩ := okWide_slice Try.underlying22 (hval 1 22 v1 rfl rfl)
  have fin : ∀ (h : Calls Try.prog 3 #[.int .i64 room, .slice ao len cap] W fun e w' => e = .returned (.bool true) ∧ Upd [] W w'),
      Calls Try.prog 3 #[.int .i64 room, .slice ao len cap] W fun e W' => ∃ v, e = .returned v ∧ Rows.ringPlaysSpec.post enc Try.prog Try.f3 false true false false W #[.int .i64 room, .slice ao len cap] v W' := fun h =>
    h.mono fun e W' ⟨he, hu⟩ => by
      subst he
      exact ⟨_, rfl, law_post Try.laidOut hW0 rfl rfl rfl Try.underlying4 (by kernel_rfl) hu⟩
  obtain ⟨fuel, hf⟩ := h1
  have hop : (ao = none ∧ len = 0) ∨ (len ≤ maxLen ∧ ∃ (a : Addr) (dos slots : Nat → Nat) (vs : Nat → ByteArray), ao = some a ∧ ∀ i, i < len → dos i < 256 ∧ slots i < 18446744073709551616 ∧
      W.cell? (a.add (i * 3)) = some (.int .u8 (dos i)) ∧ W.cell? (a.add (i * 3 + 1)) = some (.int .u64 (slots i)) ∧ W.cell? (a.add (i * 3 + 2)) = some (.string (vs i))) := by
    rcases open_slice_fields Try.underlying22 Try.underlying36 (by kernel_rfl) (by kernel_rfl) hf with ⟨hcs, hx⟩ | ⟨a, len', cap', m, D, Pl, hcs, hb, hl, hm, hmm, hx, hi⟩
    · simp only [Value.cells, List.cons.injEq, Value.slice.injEq, and_true] at hcs
      exact .inl ⟨hcs.1, hcs.2.1⟩
    · simp only [Value.cells, List.cons.injEq, Value.slice.injEq, and_true] at hcs
      obtain ⟨rfl, rfl, rfl⟩ := hcs
      simp only [if_true] at hmm
      subst hmm
      have hrow : ∀ i, i < len → ∃ (d s : Nat) (v : ByteArray), d < 256 ∧ s < 18446744073709551616 ∧ W.cell? (a.add (i * 3)) = some (.int .u8 d) ∧ W.cell? (a.add (i * 3 + 1)) = some (.int .u64 s) ∧ W.cell? (a.add (i * 3 + 2)) = some (.string v) := by
        intro i hlti
        obtain ⟨ys, n, -, -, -, hfd⟩ := hi i (by omega)
        obtain ⟨u0, y0, c0, -, t0⟩ := hfd 0 _ rfl
        obtain ⟨u1, y1, c1, -, t1⟩ := hfd 1 _ rfl
        obtain ⟨u2, y2, c2, -, t2⟩ := hfd 2 _ rfl
        obtain ⟨x0, e0, -, w0⟩ := DataW.trod_int Try.underlying5 t0
        obtain ⟨x1, e1, -, w1⟩ := DataW.trod_int Try.underlying29 t1
        obtain ⟨x2, e2, -⟩ := DataW.trod_string Try.underlying9 t2
        simp only [List.cons.injEq, and_true] at e0 e1 e2
        subst e0 e1 e2
        have b0 := bounds_u8 w0
        have b1 := bounds_u64 w1
        refine ⟨x0.toNat, x1.toNat, x2, by omega, by omega, ?_, ?_, ?_⟩
        · rw [Int.toNat_of_nonneg b0.1]; exact c0
        · rw [Int.toNat_of_nonneg b1.1]; exact c1
        · exact c2
      refine .inr ⟨by omega, a, fun i => if h : i < len then (hrow i h).choose else 0, fun i => if h : i < len then (hrow i h).choose_spec.choose else 0, fun i => if h : i < len then (hrow i h).choose_spec.choose_spec.choose else ByteArray.empty, rfl, fun i hlti => ?_⟩
      simp only [dif_pos hlti]
      exact (hrow i hlti).choose_spec.choose_spec.choose_spec
  refine fin ?_
  by_cases hroom : room < 1 ∨ 4096 < room
  · exact RingPl.plays_bad room hroom ao len cap W
  · obtain ⟨n, rfl⟩ := Int.eq_ofNat_of_zero_le (show 0 ≤ room by omega)
    have hlen : len ≤ maxLen := by rcases hop with ⟨-, h⟩ | ⟨h, -⟩; (rw [h]; simp [maxLen]); exact h
    by_cases hbig : 50 < n ∨ (n ≤ 50 ∧ 200 < len)
    · exact RingPl.plays_big n (by omega) (by omega) ao len cap hlen W hbig
    · rcases hop with ⟨rfl, rfl⟩ | ⟨-, a, dos, slots, vs, rfl, hc⟩
      · exact RingPl.plays_any n (by omega) (by omega) none 0 cap (by omega) (fun _ => 0) (fun _ => 0) (fun _ => ByteArray.empty) W (fun i hi => by omega)
      · refine RingPl.plays_any n (by omega) (by omega) (some a) len cap (by omega) dos slots vs W (fun i hi => ?_)
        obtain ⟨h3, h4, c0, c1, c2⟩ := hc i hi
        obtain ⟨b, off, spot⟩ := a
        have hspot : spot = none := by
          have := (hc 0 (by omega)).2.2.1
          simpa [Addr.add] using World.cell?_spot this
        subst hspot
        have ad : ∀ j, (⟨b, off, none⟩ : Addr).add j = ⟨b, off + j, none⟩ := fun j => by
          unfold Addr.add; split <;> simp_all
        rw [ad] at c0 c1 c2
        refine ⟨b, off, rfl, ?_, c0, by rw [Nat.add_assoc]; exact c1, by rw [Nat.add_assoc]; exact c2, h3, h4⟩
        rcases Nat.lt_or_ge b W.heap.size with h5 | h5
        · exact h5
        · simp [World.cell?, Array.getElem?_eq_none h5] at c0

theorem proved : Rows.RingPlaysSaid :=
  OpenClaim.holds_of_wide 3 Try.f3 rfl rfl rfl rfl rfl rfl rfl ⟨rfl, rfl, rfl, rfl, rfl⟩ rfl rfl rfl rfl rfl (by kernel_rfl) Try.func3 (by kernel_rfl)
    (of_decide_eq_true (by kernel_rfl)) (by unfold Func.isWrapper; first | (rw [if_pos (by decide +kernel)]; kernel_rfl) | (rw [if_neg (by decide +kernel)]; exact ⟨rfl, rfl⟩))
    (fun os started H enc _ => lifted os started H enc)
end Go.Proofs.Ytmgdhloehkdffaa.RingPlP
