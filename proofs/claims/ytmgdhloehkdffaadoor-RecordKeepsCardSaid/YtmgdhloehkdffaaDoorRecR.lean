/- The document's Open. -/
import Derived.Test.YtmgdhloehkdffaaDoorRecKw
namespace Go.Proofs.YtmgdhloehkdffaaDoor.Ref
open Go.RowKit Go.Proofs.YtmgdhloehkdffaaDoor.Var Go.Proofs.YtmgdhloehkdffaaDoor.Crc Go.Proofs.YtmgdhloehkdffaaDoor.Fr

theorem all_zero : ∀ (n : Nat) (bs : List UInt8), bs.length ≤ n → (all bs).2.2 = 0 → (all bs).2.1 = bs.length
  | 0, bs, h, _ => by
    have : bs = [] := List.eq_nil_of_length_eq_zero (by omega)
    subst this
    simp [all_nil]
  | n + 1, bs, h, h1 => by
    by_cases h0 : bs = []
    · subst h0; simp [all_nil]
    by_cases he : (take bs).2.2 = 0
    · have h2 := Fr.take_len he
      rw [all_ok h0 he] at h1 ⊢
      have h3 := all_zero n (bs.drop (take bs).2.1) (by simp; omega) h1
      simp only [List.length_drop] at h3
      show (take bs).2.1 + _ = _
      omega
    · rw [all_err h0 he] at h1
      exact absurd h1 he
theorem Elems.append {w : World} {l1 l2 : List (List UInt8)} {vs1 vs2 : List Value} (h1 : Elems w l1 vs1) (h2 : Elems w l2 vs2) (hl : vs1.length = l1.length) : Elems w (l1 ++ l2) (vs1 ++ vs2) := by
  intro i l hi
  rw [List.getElem?_append] at hi ⊢
  split at hi
  · rename_i hlt
    rw [if_pos (by omega)]
    exact h1 i l hi
  · rename_i hge
    rw [if_neg (by omega), hl]
    exact h2 _ l hi
/-- What the document's Open answers. -/
def RefOpens (w : World) (bs : List UInt8) (k : Nat) (e : Ending) (w' : World) : Prop :=
  Upd [] w w' ∧ (((all (bs.take k)).2.2 ≠ 0 ∧ e = .returned (.tuple #[.slice none 0 0, .int .i64 (bs.length : Nat), .int .i64 22])) ∨
  ((all (bs.take k)).2.2 = 0 ∧ ∃ v, e = .returned (.tuple #[v, .int .i64 ((k : Int) + ((all (bs.drop k)).2.1 : Nat)), .int .i64 0]) ∧ ReadsRows w' v ((all (bs.take k)).1 ++ (all (bs.drop k)).1)))
set_option maxRecDepth 100000 in
set_option maxHeartbeats 1000000 in
theorem open_any {xo : Option Addr} {m c k : Nat} {bs : List UInt8} (w : World) (hs : SrcAt w xo m c (bs.map u8v) 1) (hmc : m ≤ c) (hc : c ≤ maxLen) (hm : m ≤ 1000000000000) (hk : k ≤ m) :
    Calls Tryd.prog 30 #[.slice xo m c, .int .i64 (k : Int)] w (RefOpens w bs k) := by
  have hlen : bs.length = m := by have := hs.len; simpa using this
  have HS := hide hs; have HL := hide hlen
  have r1 := run_cut_h (P := Tryd.prog) 22 5 Tryd.underlying22 sizeB xo m c k (k : Int) rfl (by omega)
  have r2 := run_cut_l (P := Tryd.prog) 22 5 Tryd.underlying22 sizeB xo m c k (k : Int) rfl hk
  have S1 := hide (src_head hs hk hmc)
  have hs2 := src_cut hs hk (Nat.le_refl _) hmc (Nat.le_refl _)
  rw [List.take_of_length_le (by simp; omega)] at hs2
  have S2 := hide hs2
  obtain ⟨i1, hi1, hy0, hy1, hy2⟩ := info_parts infoR
  clear hs hlen hs2
  go_enter Tryd.func30, Tryd.ntmps30
  go_wp2_with fail
  refine (Ref.all_any (bs := bs.take k) _ S1.out (by omega) hc (by omega)).mono ?_
  rintro e w1 ⟨v1, vs1, rfl, ho1, he1, hu1⟩
  have hz := all_zero _ (bs.take k) (Nat.le_refl _)
  have hc1 := Rec.all_count _ (bs.take k) (Nat.le_refl _)
  have hc2 := Rec.all_count _ (bs.drop k) (Nat.le_refl _)
  have hle := Rec.all_le _ (bs.drop k) (Nat.le_refl _)
  have hle1 := Rec.all_le _ (bs.take k) (Nat.le_refl _)
  obtain ⟨l1, a1, e1, hal1⟩ : ∃ l1 a1 e1, all (bs.take k) = (l1, a1, e1) := ⟨_, _, _, rfl⟩
  obtain ⟨l2, a2, e2, hal2⟩ : ∃ l2 a2 e2, all (bs.drop k) = (l2, a2, e2) := ⟨_, _, _, rfl⟩
  rw [hal1] at ho1 he1 hz hc1 hle1 ⊢
  rw [hal2] at hc2 hle
  rw [List.length_take, HL.out] at hz hle1
  rw [List.length_drop, HL.out] at hle
  simp only at hz hc1 hc2 hle hle1 ho1 he1
  have AL1 := hide hal1; have AL2 := hide hal2; have U1 := hide hu1; have O1 := hide ho1; have E1 := hide he1
  clear hal1 hal2 ho1 he1 hu1
  by_cases h0 : e1 = 0
  · subst h0
    have ha : a1 = k := by have := hz rfl; omega
    subst ha
    clear hz
    go_wp2_with fail
    refine (Ref.all_in (w0 := w) (bs := bs.drop a1) _ S2.out (src_upd_nil S2.out U1.out) (by omega) (by omega) (by omega)).mono ?_
    rintro e w2 ⟨v2, vs2, rfl, ho2, he2, hu2⟩
    rw [AL2.out] at ho2 he2 ⊢
    simp only at ho2 he2
    obtain ⟨ao2, cap2, rfl, -, -, -⟩ := owns_slice ho2
    have U2 := hide (U1.out.trans hu2); have O2 := hide ho2; have E2 := hide he2
    have OO := hide (owns_upd O1.out hu2 (by simp))
    have hw : IntKind.i64.wrap ((a1 : Int) + (a2 : Int)) = (a1 : Int) + (a2 : Int) := IntWalk.i64_in _ (by omega)
    clear ho2 he2 hu2
    go_wp2_with (at_builtin; go_must (refine wpList_append_src _ rfl _ _ 30 rfl w.heap.size 22 i1 (.slice none 0 0) 1 24 Tryd.underlying30 hi1 hy0 hy1 hy2 rfl (by decide) v1 l1.length vs1 rfl OO.out ao2 l2.length cap2 vs2 rfl (src_own O2.out ?ones) (by unfold maxLen; omega) (by omega) U2.out.size ?_))
    case ones =>
      intro u hu
      obtain ⟨i, hi⟩ := List.mem_iff_getElem?.1 hu
      have hvl : vs2.length = l2.length := by have := O2.out.1; simpa using this
      have hl : i < l2.length := by have := (List.getElem?_eq_some_iff.1 hi).1; omega
      obtain ⟨xo, n, c, e1, -⟩ := E2.out i l2[i] (by simp [hl])
      rw [hi] at e1
      cases e1
      rfl
    intro ao3 cap3 w3 hown3 hU3 hn3
    have U3 := hide (U2.out.trans_new hU3 (fun k hk => by
      simp only [Option.mem_toList] at hk
      exact .inr (owns_lt O1.out k hk).1))
    have O3 := hide hown3
    clear hown3 hU3 hn3
    go_wp2_with fail
    go_ret3
    unfold RefOpens
    rw [AL1.out, AL2.out]
    refine ⟨U3.out, .inr ⟨rfl, _, rfl, ?_⟩⟩
    have hvl : vs1.length = l1.length := by have := O1.out.1; simpa using this
    exact (E1.out.append E2.out hvl).reads (base := w.heap.size) (by simpa using O3.out) U3.out
  · have q : (e1 == 0) = false := by simpa using h0
    have q2 : (e1 != 0) = true := by simpa using h0
    have HE := hide h0
    clear h0 hz
    go_wp2_with fail
    go_ret3
    unfold RefOpens
    rw [AL1.out, HL.out]
    exact ⟨U1.out, .inl ⟨HE.out, rfl⟩⟩
end Go.Proofs.YtmgdhloehkdffaaDoor.Ref
