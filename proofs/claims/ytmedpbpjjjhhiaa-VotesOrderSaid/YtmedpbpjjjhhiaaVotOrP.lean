/- The law VotesOrder (in whatever order spans are added, and however they are cut, the tally is the same), proved for every row of spans and every row of numbers: no condition. -/
import Derived.Test.YtmedpbpjjjhhiaaLawKit
import Derived.Test.YtmedpbpjjjhhiaaVotOr
namespace Go.Proofs.Ytmedpbpjjjhhiaa.VotOrP
open Go.ChangeShapes Go.WideShapes Go.ChangeAt Go.RowKit Go.Deep Go.Proofs.Ytmedpbpjjjhhiaa.Vot

theorem open_spans {H : Type} {enc : TypeId × Value → H} {W : World} {fuel : Nat} {ao : Option Addr} {len cap : Nat} {y : DataW H × List MemPlace}
    (hf : DataW.trod enc Try.prog W 0 (fun _ => true) true fuel 50 [.slice ao len cap] = some y) : ∃ f, ArgSpans W ao len f ∧ len ≤ cap ∧ cap ≤ maxLen := by
  rcases open_slice_fields Try.underlying50 Try.underlying42 (by kernel_rfl) (by kernel_rfl) hf with ⟨hcs, hx⟩ | ⟨a, len', cap', m, D, Pl, hcs, hb, hl, hm, hmm, hx, hi⟩
  · simp only [List.cons.injEq, Value.slice.injEq, and_true] at hcs
    obtain ⟨rfl, rfl, rfl⟩ := hcs
    exact ⟨fun _ => (0, 0), fun i hi => by omega, Nat.le_refl _, by simp [maxLen]⟩
  · simp only [List.cons.injEq, Value.slice.injEq, and_true] at hcs
    obtain ⟨rfl, rfl, rfl⟩ := hcs
    simp only [if_true] at hmm
    subst hmm
    have hsp : 0 < len → a.spot = none := by
      intro h0
      obtain ⟨ys, n, -, -, -, hfd⟩ := hi 0 (by omega)
      obtain ⟨u0, y0, c0, -, t0⟩ := hfd 0 _ rfl
      have := World.cell?_spot c0
      simpa [Addr.add] using this
    have hrow : ∀ i, ∃ p : Sp, i < len → ∃ b off, a = ⟨b, off, none⟩ ∧ W.cell? ⟨b, off + i * 2, none⟩ = some (.int .u64 (p.1 : Int)) ∧ W.cell? ⟨b, off + i * 2 + 1, none⟩ = some (.int .u64 (p.2 : Int)) ∧ p.1 < 18446744073709551616 ∧ p.2 < 18446744073709551616 := by
      intro i
      by_cases hlti : i < len
      · obtain ⟨ys, n, -, -, -, hfd⟩ := hi i (by omega)
        obtain ⟨u0, y0, c0, -, t0⟩ := hfd 0 _ rfl
        obtain ⟨u1, y1, c1, -, t1⟩ := hfd 1 _ rfl
        obtain ⟨x0, e0, -, w0⟩ := DataW.trod_int Try.underlying35 t0
        obtain ⟨x1, e1, -, w1⟩ := DataW.trod_int Try.underlying35 t1
        simp only [List.cons.injEq, and_true] at e0 e1
        subst e0 e1
        have b0 := bounds_u64 w0
        have b1 := bounds_u64 w1
        refine ⟨(x0.toNat, x1.toNat), fun _ => ?_⟩
        obtain ⟨b, off, spot⟩ := a
        have hspot : spot = none := hsp (by omega)
        subst hspot
        have ad : ∀ j, (⟨b, off, none⟩ : Addr).add j = ⟨b, off + j, none⟩ := fun j => by
          unfold Addr.add; split <;> simp_all
        rw [ad] at c0 c1
        refine ⟨b, off, rfl, ?_, ?_, by simp only; omega, by simp only; omega⟩
        · show W.cell? _ = some (.int .u64 (x0.toNat : Nat))
          rw [Int.toNat_of_nonneg b0.1]; exact c0
        · show W.cell? _ = some (.int .u64 (x1.toNat : Nat))
          rw [Int.toNat_of_nonneg b1.1]; exact c1
      · exact ⟨(0, 0), fun h => absurd h hlti⟩
    refine ⟨fun i => (hrow i).choose, fun i hlti => ?_, hl, hm⟩
    obtain ⟨b, off, rfl, h⟩ := (hrow i).choose_spec hlti
    exact ⟨b, off, rfl, h⟩
set_option maxRecDepth 100000 in
theorem lifted (os : Os) (started : os.Started) (H : Type) (enc : TypeId × Value → H) :
    ReturnsInHanded {} Try.checked os 5 .any (Rows.votesOrderSpec.pre6 enc Try.prog Try.f5 Rows.votesOrderRow.domain false) (Rows.votesOrderSpec.post enc Try.prog Try.f5 false true false false) := by
  refine returnsInHanded_of_change (C := Try.checked) Try.own started (by kernel_rfl) Try.func5
    (ChangeSpec.witness6 (enc := enc) (C := Try.checked) false ⟨#[], #[.slice none 0 0, .slice none 0 0], []⟩ 8 (by kernel_rfl) (by kernel_rfl) (by kernel_rfl) (by kernel_rfl)) ?_
  intro W base args ds gs before hval0 hW hcnd _
  have hval : ∀ (j : Nat) t v, Try.f5.params[j]? = some t → args[j]? = some v → Value.okWide Try.prog W .any base t v := hval0
  have hW0 : DataW.Whole enc Try.prog Try.f5.params.toList Rows.votesOrderSpec.vars false W args.toList ds gs before := hW
  have hlt : ∀ x ∈ before, x.block < W.heap.size := fun x hx => hW.lt x hx
  obtain ⟨p, q, hA0, hV, rfl, hfz, hnd⟩ := hW
  have hA : DataW.TrodAll enc Try.prog W 0 (fun _ => true) true Try.f5.params.toList args.toList ds p := hA0
  rw [Try.params5] at hA hval
  obtain ⟨v0, v1, d0, d1, p0, p1, rfl, rfl, rfl, h0, h1⟩ := trodAll_two hA
  obtain ⟨ao, len, cap, rfl⟩ := okWide_slice Try.underlying50 (hval 0 50 v0 rfl rfl)
  obtain ⟨f0, hf0⟩ := h0
  obtain ⟨f, hsp, hl, hm⟩ := open_spans hf0
  obtain ⟨bo, n, c, zs, rfl, hnc, hcm, hz, rfl, hc, hwz⟩ := open_ints_any Try.underlying51 Try.underlying35 (by kernel_rfl) (hval 1 51 v1 rfl rfl) h1 (fun x hx => hlt x (by simp [hx]))
  have walk : Calls Try.prog 5 #[.slice ao len cap, .slice bo n c] W fun e w' => e = .returned (.bool true) ∧ Upd [] W w' := by
    by_cases h : 60 < len
    · exact order_long W h
    · refine order_any (f := f) (g := fun i => (zs.getD i 0).toNat) W hsp ?_ hl hm hnc hcm (by omega)
      intro i hi
      obtain ⟨b, off, e1, e2, e3⟩ := hc i hi
      have hr := bounds_u64 (hwz (zs.getD i 0) (by
        rw [List.getD_eq_getElem?_getD, List.getElem?_eq_getElem (by omega)]
        exact List.getElem_mem _))
      refine ⟨b, off, e1, ?_, ?_⟩
      · rw [e3, Int.toNat_of_nonneg hr.1]
      · simp only; omega
  refine walk.mono fun e W' ⟨he, hu⟩ => ?_
  subst he
  exact ⟨_, rfl, law_post Try.laidOut hW0 rfl rfl rfl Try.underlying4 (by kernel_rfl) hu⟩

theorem proved : Rows.VotesOrderSaid :=
  OpenClaim.holds_of_wide 5 Try.f5 rfl rfl rfl rfl rfl rfl rfl ⟨rfl, rfl, rfl, rfl, rfl⟩ rfl rfl rfl rfl rfl (by kernel_rfl) Try.func5 (by kernel_rfl)
    (of_decide_eq_true (by kernel_rfl)) (by unfold Func.isWrapper; first | (rw [if_pos (by decide +kernel)]; kernel_rfl) | (rw [if_neg (by decide +kernel)]; exact ⟨rfl, rfl⟩))
    (fun os started H enc _ => lifted os started H enc)
end Go.Proofs.Ytmedpbpjjjhhiaa.VotOrP
