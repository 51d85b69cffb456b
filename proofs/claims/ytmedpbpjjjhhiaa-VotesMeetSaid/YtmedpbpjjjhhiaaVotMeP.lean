/- The law VotesMeet (any two majorities have a replica in common), proved for every number, sides and slot: no condition. -/
import Derived.Test.YtmedpbpjjjhhiaaLawKit
import Derived.Test.YtmedpbpjjjhhiaaVotMe
namespace Go.Proofs.Ytmedpbpjjjhhiaa.VotMeP
open Go.ChangeShapes Go.WideShapes Go.ChangeAt Go.RowKit Go.Deep Go.Proofs.Ytmedpbpjjjhhiaa.Vot

theorem open_bools' {H : Type} {enc : TypeId × Value → H} {W : World} {fuel : Nat} {ao : Option Addr} {len cap : Nat} {y : DataW H × List MemPlace}
    (hf : DataW.trod enc Try.prog W 0 (fun _ => true) true fuel 46 [.slice ao len cap] = some y) : ∃ f, Bools W ao len f ∧ len ≤ cap ∧ cap ≤ maxLen := by
  rcases open_slice1 Try.underlying46 (by kernel_rfl) hf with ⟨hcs, hx⟩ | ⟨a, len', cap', m, n, V, D, Pl, hcs, hb, hl, hm, hmm, hx, hi⟩
  · simp only [List.cons.injEq, Value.slice.injEq, and_true] at hcs
    obtain ⟨rfl, rfl, rfl⟩ := hcs
    exact ⟨fun _ => false, fun i hi => by omega, Nat.le_refl _, by simp [maxLen]⟩
  · simp only [List.cons.injEq, Value.slice.injEq, and_true] at hcs
    obtain ⟨rfl, rfl, rfl⟩ := hcs
    simp only [if_true] at hmm
    subst hmm
    have hrow : ∀ i, ∃ c : Bool, i < len → V i = .bool c := fun i => by
      by_cases hlt : i < len
      · obtain ⟨-, h2⟩ := hi i (by omega)
        obtain ⟨c, e, -⟩ := DataW.trod_bool Try.underlying4 h2
        simp only [List.cons.injEq, and_true] at e
        exact ⟨c, fun _ => e⟩
      · exact ⟨false, fun h => absurd h hlt⟩
    refine ⟨fun i => (hrow i).choose, fun i hlt => ?_, hl, hm⟩
    have hspot : a.spot = none := by
      obtain ⟨c0, -⟩ := hi 0 (by omega)
      have := World.cell?_spot c0
      simpa [Addr.add] using this
    obtain ⟨b, off, sp⟩ := a
    have hsp : sp = none := hspot
    subst hsp
    obtain ⟨c1, -⟩ := hi i (by omega)
    have ad : (⟨b, off, none⟩ : Addr).add i = ⟨b, off + i, none⟩ := by unfold Addr.add; split <;> simp_all
    rw [ad] at c1
    exact ⟨b, off, rfl, c1.trans (congrArg some ((hrow i).choose_spec hlt))⟩
set_option maxRecDepth 100000 in
theorem lifted (os : Os) (started : os.Started) (H : Type) (enc : TypeId × Value → H) :
    ReturnsInHanded {} Try.checked os 4 .any (Rows.votesMeetSpec.pre6 enc Try.prog Try.f4 Rows.votesMeetRow.domain false) (Rows.votesMeetSpec.post enc Try.prog Try.f4 false true false false) := by
  refine returnsInHanded_of_change (C := Try.checked) Try.own started (by kernel_rfl) Try.func4
    (ChangeSpec.witness6 (enc := enc) (C := Try.checked) false ⟨#[], #[.int .u8 0, .slice none 0 0, .int .u64 0], []⟩ 8 (by kernel_rfl) (by kernel_rfl) (by kernel_rfl) (by kernel_rfl)) ?_
  intro W base args ds gs before hval0 hW hcnd _
  have hval : ∀ (j : Nat) t v, Try.f4.params[j]? = some t → args[j]? = some v → Value.okWide Try.prog W .any base t v := hval0
  have hW0 : DataW.Whole enc Try.prog Try.f4.params.toList Rows.votesMeetSpec.vars false W args.toList ds gs before := hW
  obtain ⟨p, q, hA0, hV, rfl, hfz, hnd⟩ := hW
  have hA : DataW.TrodAll enc Try.prog W 0 (fun _ => true) true Try.f4.params.toList args.toList ds p := hA0
  rw [Try.params4] at hA hval
  obtain ⟨v0, v1, v2, d0, d1, d2, p0, p1, p2, rfl, rfl, rfl, h0, h1, h2⟩ := trodAll_three hA
  obtain ⟨a, rfl, rfl, rfl, wa⟩ := open_int Try.underlying5 (hval 0 5 v0 rfl rfl) h0
  obtain ⟨ao, len, cap, rfl⟩ := okWide_slice Try.underlying46 (hval 1 46 v1 rfl rfl)
  obtain ⟨b, rfl, rfl, rfl, wb⟩ := open_int Try.underlying35 (hval 2 35 v2 rfl rfl) h2
  obtain ⟨fuel, hf⟩ := h1
  have ba := bounds_u8 wa
  have bb := bounds_u64 wb
  obtain ⟨a', rfl⟩ := Int.eq_ofNat_of_zero_le ba.1
  obtain ⟨b', rfl⟩ := Int.eq_ofNat_of_zero_le bb.1
  obtain ⟨f, hbs, hl, hm⟩ := open_bools' hf
  refine (meet_any (n8 := a') (s := b') W hbs hl hm (by omega) (by omega)).mono fun e W' ⟨he, hu⟩ => ?_
  subst he
  exact ⟨_, rfl, law_post Try.laidOut hW0 rfl rfl rfl Try.underlying4 (by kernel_rfl) hu⟩

theorem proved : Rows.VotesMeetSaid :=
  OpenClaim.holds_of_wide 4 Try.f4 rfl rfl rfl rfl rfl rfl rfl ⟨rfl, rfl, rfl, rfl, rfl⟩ rfl rfl rfl rfl rfl (by kernel_rfl) Try.func4 (by kernel_rfl)
    (of_decide_eq_true (by kernel_rfl)) (by unfold Func.isWrapper; first | (rw [if_pos (by decide +kernel)]; kernel_rfl) | (rw [if_neg (by decide +kernel)]; exact ⟨rfl, rfl⟩))
    (fun os started H enc _ => lifted os started H enc)
end Go.Proofs.Ytmedpbpjjjhhiaa.VotMeP
