/- varint.Reader.Done, Int. -/
import Derived.Test.YtcjflnnjieolfaaDoorVarX
namespace Go.Proofs.YtcjflnnjieolfaaDoor.Var
open Go.RowKit Go.Proofs.YtcjflnnjieolfaaDoor.Crc

def doneM (s : Int × List UInt8) : Int × (Int × List UInt8) := if s.1 ≠ 0 then (s.1, s) else if s.2.length ≠ 0 then (11, (11, s.2)) else (0, s)
set_option maxHeartbeats 1000000 in
theorem err_s {T : Nat → Prop} {R : Nat} {lim : Int} {s : Int × List UInt8} (w : World) (h : RdS w T R lim s) : Calls Tryd.prog 40 #[.pointer (some ⟨R, 0, none⟩)] w fun en w' => en = .returned (.int .i64 s.1) ∧ w = w' := by
  obtain ⟨xo, m, c, h1, -⟩ := h
  exact err_any w h1
set_option maxHeartbeats 1000000 in
theorem done_s {T : Nat → Prop} {R : Nat} {lim : Int} {s : Int × List UInt8} (w : World) (h : RdS w T R lim s) :
    Calls Tryd.prog 23 #[.pointer (some ⟨R, 0, none⟩)] w fun en w' => en = .returned (.int .i64 (doneM s).1) ∧ RdS w' T R lim (doneM s).2 ∧ Upd [R] w w' := by
  obtain ⟨e, bs⟩ := s
  obtain ⟨xo, m, c, hr, hs⟩ := h
  simp only at hr hs
  have HR := hide hr; have HS := hide hs
  clear hr hs
  by_cases he : e = 0
  · subst he
    obtain ⟨g1, g2, g3⟩ := HS.out rfl
    have hbl : bs.length = m := by have := g1.len; simpa using this
    have c0 := HR.out.c0
    have c1 := HR.out.c1
    have BL := hide hbl
    clear g1 hbl
    by_cases hm : 0 < m
    · have d1 : decide ((0 : Int) < (m : Int)) = true := by simp; omega
      go_enter Tryd.func23, Tryd.ntmps23
      go_wp2_with fail
      refine (err_any _ HR.out).mono ?_
      rintro en w2 ⟨rfl, rfl⟩
      go_wp2_with fail
      refine (fail_any (x := 11) _ HR.out).mono ?_
      rintro en w3 ⟨rfl, hr3, hu3⟩
      have c3 := hr3.c0
      have R3 := hide hr3; have U3 := hide hu3
      clear hr3 hu3
      go_wp2_with fail
      go_ret
      have hne : bs.length ≠ 0 := by have := BL.out; omega
      unfold doneM
      simp only [ne_eq, not_true_eq_false, if_false, hne, not_false_eq_true, if_true]
      exact ⟨rfl, ⟨xo, m, c, R3.out, fun h => absurd h (by simp)⟩, U3.out⟩
    · have d1 : decide ((0 : Int) < (m : Int)) = false := by simp; omega
      go_enter Tryd.func23, Tryd.ntmps23
      go_wp2_with fail
      refine (err_any _ HR.out).mono ?_
      rintro en w2 ⟨rfl, rfl⟩
      go_wp2_with fail
      go_ret
      have hne : bs.length = 0 := by have := BL.out; omega
      unfold doneM
      simp only [ne_eq, not_true_eq_false, if_false, hne]
      exact ⟨rfl, ⟨xo, m, c, HR.out, fun _ => HS.out trivial⟩, Upd.refl _ _⟩
  · have q1 : (e != 0) = true := by simpa using he
    have q2 : (e == 0) = false := by simpa using he
    have HE := hide he
    clear he
    go_enter Tryd.func23, Tryd.ntmps23
    go_wp2_with fail
    refine (err_any _ HR.out).mono ?_
    rintro en w2 ⟨rfl, rfl⟩
    go_wp2_with fail
    go_ret
    unfold doneM
    simp only [ne_eq, HE.out, not_false_eq_true, if_true]
    exact ⟨rfl, ⟨xo, m, c, HR.out, HS.out⟩, Upd.refl _ _⟩
end Go.Proofs.YtcjflnnjieolfaaDoor.Var
