/- varint.Reader.Text, Done. -/
import Derived.Test.YtcjflnnjieolfaaDoorVarT
namespace Go.Proofs.YtcjflnnjieolfaaDoor.Var
open Go.RowKit Go.Proofs.YtcjflnnjieolfaaDoor.Crc

section
variable {P : Program} (t e : TypeId) (ht : P.underlying t = some (.slice e)) (hz : ∀ w, (sizeOf e).run P w = .ok 1 w) (xo : Option Addr) (m c : Nat)
include ht hz
theorem run_cut_lu (l : Nat) (h : l ≤ m) (w : World) : (Instr.slice t (.slice xo m c) (some (.int .u64 (l : Int))) none none).run P w = .ok (.slice (cutAt xo l c) (m - l) (c - l)) w := by
  have hel : P.elem t = e := by simp [Program.elem, ht]
  rw [run_slice_l (P := P) w t xo m c (by rw [hel]; exact ht) .u64 l (by omega) (by omega), hel, hz]
  simp [Result.andThen, sliced, cutAt]
theorem run_cut_hu (h : Nat) (h2 : h ≤ c) (w : World) : (Instr.slice t (.slice xo m c) none (some (.int .u64 (h : Int))) none).run P w = .ok (.slice xo h c) w := by
  have hel : P.elem t = e := by simp [Program.elem, ht]
  rw [run_slice_h (P := P) w t xo m c (by rw [hel]; exact ht) .u64 h (by omega) (by omega), hel, hz]
  have := cutAt_zero xo c
  simp only [cutAt] at this
  simp [Result.andThen, sliced]
  rw [← this]
  split <;> simp_all
end
def textM (lim : Nat) (s : Int × List UInt8) : List UInt8 × (Int × List UInt8) :=
  if (uintM s).2.1 ≠ 0 then ([], (uintM s).2)
  else if lim < (uintM s).1 then ([], (11, (uintM s).2.2))
  else if (uintM s).2.2.length < (uintM s).1 then ([], (10, (uintM s).2.2))
  else ((uintM s).2.2.take (uintM s).1, (0, (uintM s).2.2.drop (uintM s).1))
theorem uintM_lt (s : Int × List UInt8) : (uintM s).1 < 18446744073709551616 := by
  unfold uintM
  split
  · exact rd_lt _
  · simp
theorem uintM_len (s : Int × List UInt8) : (uintM s).2.2.length ≤ s.2.length := by
  unfold uintM
  split
  · simp
  · exact Nat.le_refl _
set_option maxHeartbeats 2000000 in
theorem text_s {T : Nat → Prop} {R lim : Nat} {s : Int × List UInt8} (w : World) (h : RdS w T R (lim : Int) s) (hl : lim ≤ 1000000) (hB : s.2.length ≤ 1000000000000) :
    Calls Tryd.prog 41 #[.pointer (some ⟨R, 0, none⟩)] w fun en w' => en = .returned (.string (strOf (textM lim s).1)) ∧ RdS w' T R (lim : Int) (textM lim s).2 ∧ Upd [R] w w' := by
  have H := hide h
  have hn := uintM_lt s
  have hl2 := uintM_len s
  clear h
  obtain ⟨n, e, bs, hu⟩ : ∃ n e bs, uintM s = (n, e, bs) := ⟨_, _, _, rfl⟩
  have HU := hide hu
  rw [hu] at hn hl2
  simp only at hn hl2
  clear hu
  go_enter Tryd.func41, Tryd.ntmps41
  go_wp2_with fail
  refine (uint_s _ H.out).mono ?_
  rw [HU.out]
  rintro en w1 ⟨rfl, ⟨xo, m, c, hr, hs⟩, hu1⟩
  simp only at hr hs ⊢
  have U1 := hide hu1; have HR := hide hr; have HS := hide hs
  clear hu1 hr hs
  go_wp2_with fail
  refine (err_any _ HR.out).mono ?_
  rintro en w2 ⟨rfl, rfl⟩
  by_cases he : e = 0
  · subst he
    obtain ⟨g1, g2, g3⟩ := HS.out rfl
    have hbl : bs.length = m := by have := g1.len; simpa using this
    have c1 := HR.out.c1
    have c2 := HR.out.c2
    have f1 := HR.out.fr 1
    have mx : max (lim : Int) 0 = (lim : Int) := by omega
    have v1 : IntKind.u64.wrap (lim : Int) = (lim : Int) := IntWalk.u64_in _ (by omega)
    have v2 : IntKind.u64.wrap (m : Int) = (m : Int) := IntWalk.u64_in _ (by omega)
    have G1 := hide g1
    have BL := hide hbl
    clear g1 hbl
    by_cases h1 : lim < n
    · have d1 : decide ((lim : Int) < (n : Int)) = true := by simp; omega
      go_wp2_with fail
      refine (fail_any (x := 11) _ HR.out).mono ?_
      rintro en w3 ⟨rfl, hr3, hu3⟩
      have R3 := hide hr3; have U3 := hide (U1.out.trans hu3)
      clear hr3 hu3
      go_wp2_with fail
      go_ret
      unfold textM
      rw [HU.out]
      simp only [ne_eq, not_true_eq_false, if_false, h1, if_true]
      exact ⟨rfl, ⟨xo, m, c, R3.out, fun h => absurd h (by simp)⟩, U3.out⟩
    · have d1 : decide ((lim : Int) < (n : Int)) = false := by simp; omega
      by_cases h2 : m < n
      · have d2 : decide ((m : Int) < (n : Int)) = true := by simp; omega
        go_wp2_with fail
        refine (fail_any (x := 10) _ HR.out).mono ?_
        rintro en w3 ⟨rfl, hr3, hu3⟩
        have R3 := hide hr3; have U3 := hide (U1.out.trans hu3)
        clear hr3 hu3
        go_wp2_with fail
        go_ret
        unfold textM
        rw [HU.out]
        simp only [ne_eq, not_true_eq_false, if_false, h1, BL.out, h2, if_true]
        exact ⟨rfl, ⟨xo, m, c, R3.out, fun h => absurd h (by simp)⟩, U3.out⟩
      · have d2 : decide ((m : Int) < (n : Int)) = false := by simp; omega
        have k1 := run_cut_hu (P := Tryd.prog) 23 5 Tryd.underlying23 sizeB xo m c n (by omega)
        have k2 := run_cut_lu (P := Tryd.prog) 23 5 Tryd.underlying23 sizeB xo m c n (by omega)
        have k3 := run_str (src_head G1.out (h := n) (by omega) g2)
        go_wp2_with fail
        go_ret
        unfold textM
        rw [HU.out]
        simp only [ne_eq, not_true_eq_false, if_false, h1, BL.out, h2]
        refine ⟨rfl, ⟨_, _, _, HR.out.setB _ _ _, fun _ => ⟨?_, by omega, fun a ha h0 => cut_block (Q := T) (fun a h => g3 a h (by omega)) a ha⟩⟩, U1.out.setCell (.inl (by simp)) _⟩
        have hcut := src_cut G1.out (l := n) (h := m) (q := c) (by omega) (Nat.le_refl _) g2 (Nat.le_refl _)
        rw [List.take_of_length_le (by have := BL.out; simp; omega)] at hcut
        have hu2 : Upd [R] w1 (w1.setCell ⟨R, 1, none⟩ (.slice (cutAt xo n c) (m - n) (c - n))) := (Upd.refl _ _).setCell (.inl (by simp)) _
        exact src_upd hcut hu2 (fun a ha h0 => by
          have hne := rd_apart HR.out G1.out
          unfold cutAt at ha
          split at ha
          · have := hne a ha (by omega); simpa using this
          · cases xo with
            | none => cases ha
            | some a0 =>
              cases ha
              have := hne a0 rfl (by omega)
              unfold Addr.add
              split <;> simpa using this)
  · have q1 : (e != 0) = true := by simpa using he
    have q2 : (e == 0) = false := by simpa using he
    have HE := hide he
    clear he
    go_wp2_with fail
    go_ret
    unfold textM
    rw [HU.out]
    simp only [ne_eq, HE.out, not_false_eq_true, if_true]
    exact ⟨rfl, ⟨xo, m, c, HR.out, HS.out⟩, U1.out⟩
end Go.Proofs.YtcjflnnjieolfaaDoor.Var
