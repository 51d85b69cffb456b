/- varint.Reader as it reads on: the bytes that are left, or the first error. Uint behind an error; Text; Done; Int. -/
import Derived.Test.YtcjflnnjieolfaaDoorVarR
import Derived.Test.YtcjflnnjieolfaaDoorStr
import Derived.IntWalk
namespace Go.Proofs.YtcjflnnjieolfaaDoor.Var
open Go.RowKit Go.Proofs.YtcjflnnjieolfaaDoor.Crc

/-- A reader's state: its error, and the bytes that are left. -/
def RdS (w : World) (T : Nat → Prop) (R : Nat) (lim : Int) (s : Int × List UInt8) : Prop :=
  ∃ xo m c, RdAt w R s.1 xo m c lim ∧ (s.1 = 0 → SrcAt w xo m c (s.2.map u8v) 1 ∧ m ≤ c ∧ ∀ a, xo = some a → m ≠ 0 → T a.block)
/-- What is read lies beside the reader. -/
theorem rd_apart {w : World} {R m c : Nat} {e lim : Int} {xo : Option Addr} {bs : List UInt8} (h : RdAt w R e xo m c lim) (hs : SrcAt w xo m c (bs.map u8v) 1) : ∀ a, xo = some a → m ≠ 0 → a.block ≠ R := by
  intro a ha hm hb
  obtain ⟨b, off, e1, h1⟩ := src_at hs (j := 0) (by omega)
  rw [ha] at e1
  cases e1
  simp only at hb
  subst hb
  rw [Nat.add_zero] at h1
  have hR := h.hR
  unfold World.cell? at h1
  simp only [hR] at h1
  match off with
  | 0 => simp at h1
  | 1 => simp at h1
  | 2 => simp at h1
  | k + 3 => simp at h1
theorem RdS.updS {w w' : World} {T : Nat → Prop} {S : List Nat} {R : Nat} {lim : Int} {s : Int × List UInt8} (h : RdS w T R lim s) (hu : Upd S w w') (hR : R ∉ S) (hT : ∀ k ∈ S, ¬ T k) : RdS w' T R lim s := by
  obtain ⟨xo, m, c, h1, h2⟩ := h
  exact ⟨xo, m, c, h1.upd hu hR, fun e => ⟨src_upd (h2 e).1 hu (fun a ha hm hb => hT _ hb ((h2 e).2.2 a ha hm)), (h2 e).2⟩⟩
theorem RdS.upd {w w' : World} {T : Nat → Prop} {R : Nat} {lim : Int} {s : Int × List UInt8} (h : RdS w T R lim s) (hu : Upd [] w w') : RdS w' T R lim s := h.updS hu (by simp) (by simp)
def uintM (s : Int × List UInt8) : Nat × (Int × List UInt8) :=
  if s.1 = 0 then ((rd s.2).1, ((rd s.2).2.2, s.2.drop (rd s.2).2.1)) else (0, s)
set_option maxHeartbeats 1000000 in
theorem byte_err {R m c : Nat} {e lim : Int} {xo : Option Addr} (w : World) (h : RdAt w R e xo m c lim) (he : e ≠ 0) :
    Calls Tryd.prog 64 #[.pointer (some ⟨R, 0, none⟩)] w fun en w' => en = .returned (.int .u8 0) ∧ w = w' := by
  have hc0 := h.c0
  have q1 : (e != 0) = true := by simpa using he
  have q2 : (e == 0) = false := by simpa using he
  clear h
  go_enter Tryd.func64, Tryd.ntmps64
  go_wp2_with fail
  go_ret
  exact ⟨rfl, rfl⟩
set_option maxHeartbeats 1000000 in
theorem uint_err {R m c : Nat} {e lim : Int} {xo : Option Addr} (w : World) (h : RdAt w R e xo m c lim) (he : e ≠ 0) :
    Calls Tryd.prog 39 #[.pointer (some ⟨R, 0, none⟩)] w fun en w' => en = .returned (.int .u64 0) ∧ w = w' := by
  have q1 : (e != 0) = true := by simpa using he
  have q2 : (e == 0) = false := by simpa using he
  have H := hide h; have HE := hide he
  clear h he
  go_enter Tryd.func39, Tryd.ntmps39
  go_wp2_with fail
  go_loopw [4] (fun si wr => si = .int .i64 0 ∧ wr = w) (fun _ _ => 0)
  case atStart => exact ⟨rfl, rfl⟩
  case round =>
    obtain ⟨rfl, rfl⟩ := hrel
    go_wp2_with fail
    refine (byte_err _ H.out HE.out).mono ?_
    rintro en w2 ⟨rfl, rfl⟩
    go_wp2_with fail
    refine (err_any _ H.out).mono ?_
    rintro en w2 ⟨rfl, rfl⟩
    go_wp2_with fail
    go_ret
    exact ⟨rfl, rfl⟩
theorem rd_lt (bs : List UInt8) : (rd bs).1 < 18446744073709551616 := by
  obtain ⟨n, k, e, h⟩ : ∃ n k e, rd bs = (n, k, e) := ⟨_, _, _, rfl⟩
  rw [h]
  by_cases he : e = 0
  · exact (rd_ok h he).2.2.2.2
  · unfold rd at h
    split at h
    · cases h; simp
    · split at h
      · cases h; simp
      · split at h
        · cases h; simp
        · cases h; exact absurd rfl he
/-- Uint, whatever the reader's state. -/
theorem uint_s {T : Nat → Prop} {R : Nat} {lim : Int} {s : Int × List UInt8} (w : World) (h : RdS w T R lim s) :
    Calls Tryd.prog 39 #[.pointer (some ⟨R, 0, none⟩)] w fun en w' => en = .returned (.int .u64 ((uintM s).1 : Int)) ∧ RdS w' T R lim (uintM s).2 ∧ Upd [R] w w' := by
  obtain ⟨xo, m, c, h1, h2⟩ := h
  by_cases he : s.1 = 0
  · obtain ⟨g1, g2, g3⟩ := h2 he
    rw [he] at h1
    refine (uint_read (T := T) w h1 g1 g2 (fun a ha hm => ⟨rd_apart h1 g1 a ha hm, g3 a ha hm⟩)).mono fun en w' hr => ?_
    unfold uintM
    rw [if_pos he]
    exact ⟨hr.ans, hr.rdr, hr.upd⟩
  · refine (uint_err w h1 he).mono ?_
    rintro en w' ⟨rfl, rfl⟩
    unfold uintM
    rw [if_neg he]
    exact ⟨rfl, ⟨xo, m, c, h1, h2⟩, Upd.refl _ _⟩
end Go.Proofs.YtcjflnnjieolfaaDoor.Var
