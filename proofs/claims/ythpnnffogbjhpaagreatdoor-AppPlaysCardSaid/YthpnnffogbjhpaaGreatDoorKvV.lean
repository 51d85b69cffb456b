/- The variables that kv's number parsing reads; its library contracts as Upd. -/
import Derived.Test.YthpnnffogbjhpaaGreatDoorKvLay
import Derived.Test.YthpnnffogbjhpaaGreatDoorKvS
import Derived.Test.YthpnnffogbjhpaaGreatDoorCmM
set_option linter.unusedSimpArgs false
set_option linter.unusedVariables false
set_option linter.unnecessarySimpa false
namespace Go.Proofs.YthpnnffogbjhpaaGreatDoor.Kv
open Go.RowKit Go.Lib Go.Sort Go.Proofs.YthpnnffogbjhpaaGreatDoor.Crc Go.Proofs.YthpnnffogbjhpaaGreatDoor.Cm

structure EnvAt (w : World) : Prop where
  cnt : CntAt w
  tab : Lib.TabIs Tryz.prog w "internal/strconv.uint64pow10" .u64 Lib.pow10Tab
  syn : ∃ tp p, w.var? Tryz.prog "strconv.ErrSyntax" = some #[.iface tp p]
  ran : ∃ tp p, w.var? Tryz.prog "strconv.ErrRange" = some #[.iface tp p]
theorem gTab : Tryz.prog.globalNamed "internal/strconv.uint64pow10" = some 3 := by kernel_rfl
theorem gSyn : Tryz.prog.globalNamed "strconv.ErrSyntax" = some 1 := by kernel_rfl
theorem gRan : Tryz.prog.globalNamed "strconv.ErrRange" = some 2 := by kernel_rfl
theorem var_blk {w : World} {n : String} {g : Nat} {cs : Array Value} (hg : Tryz.prog.globalNamed n = some g) (h : w.var? Tryz.prog n = some cs) : ∃ t x, w.heap[g]? = some (.cells cs t x) := by
  unfold World.var? at h
  simp only [hg, Option.bind_some] at h
  split at h
  · rename_i cs' t x hh
    cases h
    exact ⟨t, x, hh⟩
  · cases h
theorem var_upd {w w' : World} {S : List Nat} {n : String} {g : Nat} {cs : Array Value} (hg : Tryz.prog.globalNamed n = some g) (h : w.var? Tryz.prog n = some cs) (hu : Upd S w w') (hS : g ∉ S) : w'.var? Tryz.prog n = some cs := by
  obtain ⟨t, x, hb⟩ := var_blk hg h
  have hb' := hu.get hb hS
  unfold World.var?
  simp only [hg, Option.bind_some, hb']
theorem EnvAt.upd {w w' : World} {S : List Nat} (h : EnvAt w) (hu : Upd S w w') (h0 : 0 ∉ S) (h1 : 1 ∉ S) (h2 : 2 ∉ S) (h3 : 3 ∉ S) : EnvAt w' := by
  refine ⟨h.cnt.upd hu h0, var_upd gTab h.tab hu h3, ?_, ?_⟩
  · obtain ⟨tp, p, h'⟩ := h.syn
    exact ⟨tp, p, var_upd gSyn h' hu h1⟩
  · obtain ⟨tp, p, h'⟩ := h.ran
    exact ⟨tp, p, var_upd gRan h' hu h2⟩
theorem EnvAt.upd_nil {w w' : World} (h : EnvAt w) (hu : Upd [] w w') : EnvAt w' := h.upd hu (by simp) (by simp) (by simp) (by simp)
theorem cell_blk {w : World} {p : Addr} {v : Value} (h : w.cell? p = some v) : ∃ cs t x, w.heap[p.block]? = some (.cells cs t x) := by
  unfold World.cell? at h
  split at h <;> first | (cases h; done) | exact ⟨_, _, _, by assumption⟩
theorem EnvAt.upd_map {w w' : World} {g : Nat} {m : KM} (h : EnvAt w) (hs : kvK.is w g m) (hu : Upd [g] w w') : EnvAt w' := by
  obtain ⟨es, clock, hb, -⟩ := hs
  have hn : ∀ {k cs t x}, w.heap[k]? = some (.cells cs t x) → k ∉ [g] := fun hk e => by
    rw [List.mem_singleton] at e
    rw [e, hb] at hk
    cases hk
  obtain ⟨_, _, _, q0⟩ := cell_blk (h.cnt 0 (by decide)).1
  obtain ⟨tp, p, h'⟩ := h.syn
  obtain ⟨_, _, q1⟩ := var_blk gSyn h'
  obtain ⟨tp, p, h'⟩ := h.ran
  obtain ⟨_, _, q2⟩ := var_blk gRan h'
  obtain ⟨_, _, q3⟩ := var_blk gTab h.tab
  exact h.upd hu (hn q0) (hn q1) (hn q2) (hn q3)
theorem EnvAt.size {w : World} (h : EnvAt w) : 0 < w.heap.size ∧ 1 < w.heap.size ∧ 2 < w.heap.size ∧ 3 < w.heap.size := by
  obtain ⟨_, _, _, q0⟩ := cell_blk (h.cnt 0 (by decide)).1
  obtain ⟨tp, p, h'⟩ := h.syn
  obtain ⟨_, _, q1⟩ := var_blk gSyn h'
  obtain ⟨tp, p, h'⟩ := h.ran
  obtain ⟨_, _, q2⟩ := var_blk gRan h'
  obtain ⟨_, _, q3⟩ := var_blk gTab h.tab
  exact ⟨blk_lt q0, blk_lt q1, blk_lt q2, blk_lt q3⟩
theorem upd_grow {w : World} (k : Nat) (os : Array Obj) : Upd [] w (grow (w.drewN k) os) :=
  ⟨rfl, rfl, rfl, by simp [grow], fun i hi _ => by
    show (w.heap ++ os)[i]? = _
    rw [Array.getElem?_append_left hi]⟩
theorem itoa_any {n : Int} (w : World) (h : EnvAt w) (h0 : -9223372036854775808 ≤ n) (h1 : n ≤ 9223372036854775807) : Calls Tryz.prog 108 #[.int .i64 n] w fun e w' => e = .returned (.string (strOf (Lib.itoa n))) ∧ Upd [] w w' := by
  refine (sh_strconv_Itoa n h0 h1 w h.tab).mono ?_
  rintro e w' ⟨rfl, k, os, rfl⟩
  exact ⟨rfl, upd_grow k os⟩
theorem fmt_any {n : Int} (w : World) (h : EnvAt w) (h0 : -9223372036854775808 ≤ n) (h1 : n ≤ 9223372036854775807) : Calls Tryz.prog 104 #[.int .i64 n, .int .i64 10] w fun e w' => e = .returned (.string (strOf (Lib.itoa n))) ∧ Upd [] w w' := by
  refine (sh_strconv_FormatInt_10 n h0 h1 w h.tab).mono ?_
  rintro e w' ⟨rfl, k, os, rfl⟩
  exact ⟨rfl, upd_grow k os⟩
theorem sat_bounds (s : List UInt8) : -9223372036854775808 ≤ Lib.intSat 64 s ∧ Lib.intSat 64 s ≤ 9223372036854775807 := by
  unfold Lib.intSat
  split <;> simp
theorem parse_ok {s : List UInt8} {n : Int} (w : World) (hs : s.length ≤ 281474976710656) (h : Lib.parseIntB 64 s = .ok n) : Calls Tryz.prog 103 #[.string (strOf s), .int .i64 10, .int .i64 64] w fun e w' => e = .returned (.tuple #[.int .i64 n, .nilIface]) ∧ Upd [] w w' := by
  refine (sh_strconv_ParseInt_10_at64_ok (strOf s) (by rw [strOf_size]; omega) n (by rw [strOf_list]; exact h) w).mono ?_
  rintro e w' ⟨rfl, rfl | ⟨t, rfl⟩⟩
  · exact ⟨rfl, Upd.refl _ _⟩
  · exact ⟨rfl, Upd.of_below (show Below w.heap.size w (Lib.bytesWorld w 5 t) from ⟨rfl, rfl, rfl, by rw [Lib.bytesWorld_size]; omega, fun j hj => Lib.bytesWorld_at_old w _ _ j hj⟩) []⟩
theorem parse_bad {s : List UInt8} (w : World) (he : EnvAt w) (hs : s.length ≤ 281474976710656) (h : ∀ n, Lib.parseIntB 64 s ≠ .ok n) : Calls Tryz.prog 103 #[.string (strOf s), .int .i64 10, .int .i64 64] w fun e w' => (∃ z ty v, e = .returned (.tuple #[.int .i64 z, .iface ty v]) ∧ -9223372036854775808 ≤ z ∧ z ≤ 9223372036854775807) ∧ Upd [] w w' := by
  rcases hp : Lib.parseIntB 64 s with n | _ | _
  · exact absurd hp (h n)
  · obtain ⟨tp, p, hv⟩ := he.syn
    refine (sh_strconv_ParseInt_10_at64_syntax_var (strOf s) (by rw [strOf_size]; omega) (by rw [strOf_list]; exact hp) tp p w hv).mono ?_
    rintro e w' ⟨N, rfl, -, -, hb⟩
    exact ⟨⟨_, _, _, rfl, by omega, by omega⟩, Upd.of_below hb []⟩
  · obtain ⟨tp, p, hv⟩ := he.ran
    refine (sh_strconv_ParseInt_10_at64_range_var (strOf s) (by rw [strOf_size]; omega) (by rw [strOf_list]; exact hp) tp p w hv).mono ?_
    rintro e w' ⟨N, rfl, -, -, hb⟩
    exact ⟨⟨_, _, _, rfl, (sat_bounds _).1, (sat_bounds _).2⟩, Upd.of_below hb []⟩
end Go.Proofs.YthpnnffogbjhpaaGreatDoor.Kv
