/- The law RingSlides (a window slides for ever), proved for every room, base and steps: no condition. -/
import Derived.Test.YtmgdhloehkdffaaLawKit
import Derived.Test.YtmgdhloehkdffaaRingSl
namespace Go.Proofs.Ytmgdhloehkdffaa.RingSlP
open Go.ChangeShapes Go.WideShapes Go.ChangeAt Go.RowKit

set_option maxRecDepth 100000 in
theorem lifted (os : Os) (started : os.Started) (H : Type) (enc : TypeId × Value → H) :
    ReturnsInHanded {} Try.checked os 4 .any (Rows.ringSlidesSpec.pre6 enc Try.prog Try.f4 Rows.ringSlidesRow.domain false) (Rows.ringSlidesSpec.post enc Try.prog Try.f4 false true false false) := by
  refine returnsInHanded_of_change (C := Try.checked) Try.own started (by kernel_rfl) Try.func4
    (ChangeSpec.witness6 (enc := enc) (C := Try.checked) false ⟨#[], #[.int .u8 0, .int .u64 0, .slice none 0 0], []⟩ 8 (by kernel_rfl) (by kernel_rfl) (by kernel_rfl) (by kernel_rfl)) ?_
  intro W base args ds gs before hval0 hW hcnd _
  have hval : ∀ (j : Nat) t v, Try.f4.params[j]? = some t → args[j]? = some v → Value.okWide Try.prog W .any base t v := hval0
  have hW0 : DataW.Whole enc Try.prog Try.f4.params.toList Rows.ringSlidesSpec.vars false W args.toList ds gs before := hW
  have hlt : ∀ x ∈ before, x.block < W.heap.size := fun x hx => hW.lt x hx
  obtain ⟨p, q, hA0, hV, rfl, hfz, hnd⟩ := hW
  have hA : DataW.TrodAll enc Try.prog W 0 (fun _ => true) true Try.f4.params.toList args.toList ds p := hA0
  rw [Try.params4] at hA hval
  obtain ⟨v0, v1, v2, d0, d1, d2, p0, p1, p2, rfl, rfl, rfl, h0, h1, h2⟩ := trodAll_three hA
  obtain ⟨a, rfl, rfl, rfl, wa⟩ := open_int Try.underlying5 (hval 0 5 v0 rfl rfl) h0
  obtain ⟨b, rfl, rfl, rfl, wb⟩ := open_int Try.underlying29 (hval 1 29 v1 rfl rfl) h1
  obtain ⟨ao, len, cap, zs, rfl, hl, hm, hz, rfl, hc, hwz⟩ := open_ints_any Try.underlying39 Try.underlying5 (by kernel_rfl) (hval 2 39 v2 rfl rfl) h2 (fun x hx => hlt x (by simp [hx]))
  have ba := bounds_u8 wa
  have bb := bounds_u64 wb
  obtain ⟨a', rfl⟩ := Int.eq_ofNat_of_zero_le ba.1
  obtain ⟨b', rfl⟩ := Int.eq_ofNat_of_zero_le bb.1
  refine (RingSl.slides_any a' b' ao len cap (fun i => (zs.getD i 0).toNat) W (by omega) (by omega) (by omega) ?_).mono fun e W' ⟨he, hu⟩ => ?_
  · intro i hi
    obtain ⟨b, off, e1, e2, e3⟩ := hc i hi
    have hr := range_u8 hwz i
    refine ⟨b, off, e1, e2, ?_, ?_⟩
    · rw [e3, List.getD_eq_getElem?_getD, Int.toNat_of_nonneg hr.1]
    · simp only [List.getD_eq_getElem?_getD]; omega
  · subst he
    exact ⟨_, rfl, law_post Try.laidOut hW0 rfl rfl rfl Try.underlying4 (by kernel_rfl) hu⟩

theorem proved : Rows.RingSlidesSaid :=
  OpenClaim.holds_of_wide 4 Try.f4 rfl rfl rfl rfl rfl rfl rfl ⟨rfl, rfl, rfl, rfl, rfl⟩ rfl rfl rfl rfl rfl (by kernel_rfl) Try.func4 (by kernel_rfl)
    (of_decide_eq_true (by kernel_rfl)) (by unfold Func.isWrapper; first | (rw [if_pos (by decide +kernel)]; kernel_rfl) | (rw [if_neg (by decide +kernel)]; exact ⟨rfl, rfl⟩))
    (fun os started H enc _ => lifted os started H enc)
end Go.Proofs.Ytmgdhloehkdffaa.RingSlP
