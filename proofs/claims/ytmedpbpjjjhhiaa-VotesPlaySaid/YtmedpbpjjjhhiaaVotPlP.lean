/- The law VotesPlay (a tally behind acts tells what the document says), proved for every number of replicas and every row of acts: no condition. -/
import Derived.Test.YtmedpbpjjjhhiaaLawKit
import Derived.Test.YtmedpbpjjjhhiaaVotPl
namespace Go.Proofs.Ytmedpbpjjjhhiaa.VotPlP
open Go.ChangeShapes Go.WideShapes Go.ChangeAt Go.RowKit Go.Deep Go.Proofs.Ytmedpbpjjjhhiaa.Vot

theorem open_acts4 {H : Type} {enc : TypeId × Value → H} {W : World} {fuel : Nat} {ao : Option Addr} {len cap : Nat} {y : DataW H × List MemPlace}
    (hf : DataW.trod enc Try.prog W 0 (fun _ => true) true fuel 22 [.slice ao len cap] = some y) : ∃ rs fs ts frs, ArgActs W ao len rs fs ts frs ∧ len ≤ cap ∧ cap ≤ maxLen := by
  rcases open_slice_fields Try.underlying22 Try.underlying33 (by kernel_rfl) (by kernel_rfl) hf with ⟨hcs, hx⟩ | ⟨a, len', cap', m, D, Pl, hcs, hb, hl, hm, hmm, hx, hi⟩
  · simp only [List.cons.injEq, Value.slice.injEq, and_true] at hcs
    obtain ⟨rfl, rfl, rfl⟩ := hcs
    exact ⟨fun _ => 0, fun _ => 0, fun _ => 0, fun _ => false, fun i hi => by omega, Nat.le_refl _, by simp [maxLen]⟩
  · simp only [List.cons.injEq, Value.slice.injEq, and_true] at hcs
    obtain ⟨rfl, rfl, rfl⟩ := hcs
    simp only [if_true] at hmm
    subst hmm
    have hsp : 0 < len → a.spot = none := by
      intro h0
      obtain ⟨ys, n, -, -, -, hfd⟩ := hi 0 (by omega)
      obtain ⟨u0, y0, c0, -, t0⟩ := hfd 0 _ rfl
      have := World.cell?_spot c0
      simpa [Addr.add] using this
    have hrow : ∀ i, ∃ p : Int × Nat × Nat × Bool, i < len → ∃ b off, a = ⟨b, off, none⟩ ∧ Act4 W b off i p.1 p.2.1 p.2.2.1 p.2.2.2 := by
      intro i
      by_cases hlti : i < len
      · obtain ⟨ys, n, -, -, -, hfd⟩ := hi i (by omega)
        obtain ⟨u0, y0, c0, -, t0⟩ := hfd 0 _ rfl
        obtain ⟨u1, y1, c1, -, t1⟩ := hfd 1 _ rfl
        obtain ⟨u2, y2, c2, -, t2⟩ := hfd 2 _ rfl
        obtain ⟨u3, y3, c3, -, t3⟩ := hfd 3 _ rfl
        obtain ⟨x0, e0, -, w0⟩ := DataW.trod_int Try.underlying3 t0
        obtain ⟨x1, e1, -, w1⟩ := DataW.trod_int Try.underlying5 t1
        obtain ⟨x2, e2, -, w2⟩ := DataW.trod_int Try.underlying5 t2
        obtain ⟨x3, e3, -⟩ := DataW.trod_bool Try.underlying4 t3
        simp only [List.cons.injEq, and_true] at e0 e1 e2 e3
        subst e0 e1 e2 e3
        have b1 := bounds_u8 w1
        have b2 := bounds_u8 w2
        refine ⟨(x0, x1.toNat, x2.toNat, x3), fun _ => ?_⟩
        obtain ⟨b, off, spot⟩ := a
        have hspot : spot = none := hsp (by omega)
        subst hspot
        have ad : ∀ j, (⟨b, off, none⟩ : Addr).add j = ⟨b, off + j, none⟩ := fun j => by
          unfold Addr.add; split <;> simp_all
        rw [ad] at c0 c1 c2 c3
        refine ⟨b, off, rfl, c0, ?_, ?_, c3, by simp only; omega, by simp only; omega⟩
        · show W.cell? _ = some (.int .u8 (x1.toNat : Nat))
          rw [Int.toNat_of_nonneg b1.1]; exact c1
        · show W.cell? _ = some (.int .u8 (x2.toNat : Nat))
          rw [Int.toNat_of_nonneg b2.1]; exact c2
      · exact ⟨(0, 0, 0, false), fun h => absurd h hlti⟩
    refine ⟨fun i => (hrow i).choose.1, fun i => (hrow i).choose.2.1, fun i => (hrow i).choose.2.2.1, fun i => (hrow i).choose.2.2.2, fun i hlti => ?_, hl, hm⟩
    obtain ⟨b, off, rfl, h⟩ := (hrow i).choose_spec hlti
    exact ⟨b, off, rfl, h⟩
set_option maxRecDepth 100000 in
theorem lifted (os : Os) (started : os.Started) (H : Type) (enc : TypeId × Value → H) :
    ReturnsInHanded {} Try.checked os 3 .any (Rows.votesPlaySpec.pre6 enc Try.prog Try.f3 Rows.votesPlayRow.domain false) (Rows.votesPlaySpec.post enc Try.prog Try.f3 false true false false) := by
  refine returnsInHanded_of_change (C := Try.checked) Try.own started (by kernel_rfl) Try.func3
    (ChangeSpec.witness6 (enc := enc) (C := Try.checked) false ⟨#[], #[.int .i64 0, .slice none 0 0], []⟩ 8 (by kernel_rfl) (by kernel_rfl) (by kernel_rfl) (by kernel_rfl)) ?_
  intro W base args ds gs before hval0 hW hcnd _
  have hval : ∀ (j : Nat) t v, Try.f3.params[j]? = some t → args[j]? = some v → Value.okWide Try.prog W .any base t v := hval0
  have hW0 : DataW.Whole enc Try.prog Try.f3.params.toList Rows.votesPlaySpec.vars false W args.toList ds gs before := hW
  have hlt : ∀ x ∈ before, x.block < W.heap.size := fun x hx => hW.lt x hx
  obtain ⟨p, q, hA0, hV, rfl, hfz, hnd⟩ := hW
  have hA : DataW.TrodAll enc Try.prog W 0 (fun _ => true) true Try.f3.params.toList args.toList ds p := hA0
  rw [Try.params3] at hA hval
  obtain ⟨v0, v1, d0, d1, p0, p1, rfl, rfl, rfl, h0, h1⟩ := trodAll_two hA
  obtain ⟨z, rfl, rfl, rfl, wz⟩ := open_int Try.underlying3 (hval 0 3 v0 rfl rfl) h0
  obtain ⟨ao, len, cap, rfl⟩ := okWide_slice Try.underlying22 (hval 1 22 v1 rfl rfl)
  obtain ⟨f1, hf1⟩ := h1
  obtain ⟨rs, fs, ts, frs, hacts, -, -⟩ := open_acts4 hf1
  have walk : Calls Try.prog 3 #[.int .i64 z, .slice ao len cap] W fun e w' => e = .returned (.bool true) ∧ Upd [] W w' := by
    by_cases h : z < 1 ∨ 7 < z
    · exact play_out W h
    · obtain ⟨n, rfl⟩ := Int.eq_ofNat_of_zero_le (show 0 ≤ z by omega)
      exact play_any W (by omega) (by omega) hacts
  refine walk.mono fun e W' ⟨he, hu⟩ => ?_
  subst he
  exact ⟨_, rfl, law_post Try.laidOut hW0 rfl rfl rfl Try.underlying4 (by kernel_rfl) hu⟩

theorem proved : Rows.VotesPlaySaid :=
  OpenClaim.holds_of_wide 3 Try.f3 rfl rfl rfl rfl rfl rfl rfl ⟨rfl, rfl, rfl, rfl, rfl⟩ rfl rfl rfl rfl rfl (by kernel_rfl) Try.func3 (by kernel_rfl)
    (of_decide_eq_true (by kernel_rfl)) (by unfold Func.isWrapper; first | (rw [if_pos (by decide +kernel)]; kernel_rfl) | (rw [if_neg (by decide +kernel)]; exact ⟨rfl, rfl⟩))
    (fun os started H enc _ => lifted os started H enc)
end Go.Proofs.Ytmedpbpjjjhhiaa.VotPlP
