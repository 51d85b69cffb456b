/- ShB, ShC in one text. -/
import Derived.Test.YtanjnhohfcgapaaGreatDoorSgYZ
import Derived.Test.YtanjnhohfcgapaaGreatDoorShA
set_option linter.unusedSimpArgs false
set_option linter.unusedVariables false
set_option linter.unnecessarySimpa false
namespace Go.Proofs.YtanjnhohfcgapaaGreatDoor.Sg
open Go.RowKit Go.Proofs.YtanjnhohfcgapaaGreatDoor.Crc Go.Proofs.YtanjnhohfcgapaaGreatDoor.Cm Go.Proofs.YtanjnhohfcgapaaGreatDoor.Tr Go.Proofs.YtanjnhohfcgapaaGreatDoor.Kv Go.Proofs.YtanjnhohfcgapaaGreatDoor.Au
set_option linter.unusedSimpArgs false
set_option linter.unusedVariables false
theorem new_bad {self n : Int} (w : World) (h : n < 1 ∨ 7 < n ∨ self < 0 ∨ n ≤ self) : Calls Tryz.prog 25 #[.int .i64 self, .int .i64 n] w fun e w' => e = .returned (.tuple #[.pointer none, .int .i64 1]) ∧ w = w' := by
  by_cases h1 : n < 1
  · have d1 : decide (n < 1) = true := by simpa using h1
    clear h h1
    go_enter Tryz.func25, Tryz.ntmps25
    go_wp2_with fail
    go_ret2
    exact ⟨rfl, rfl⟩
  · have d1 : decide (n < 1) = false := by simp; omega
    by_cases h2 : 7 < n
    · have d2 : decide (7 < n) = true := by simpa using h2
      clear h h1 h2
      go_enter Tryz.func25, Tryz.ntmps25
      go_wp2_with fail
      go_ret2
      exact ⟨rfl, rfl⟩
    · have d2 : decide (7 < n) = false := by simp; omega
      by_cases h3 : self < 0
      · have d3 : decide (self < 0) = true := by simpa using h3
        clear h h1 h2 h3
        go_enter Tryz.func25, Tryz.ntmps25
        go_wp2_with fail
        go_ret2
        exact ⟨rfl, rfl⟩
      · have d3 : decide (self < 0) = false := by simp; omega
        have h4 : n ≤ self := by omega
        have d4 : decide (n ≤ self) = true := by simpa using h4
        clear h h1 h2 h3 h4
        go_enter Tryz.func25, Tryz.ntmps25
        go_wp2_with fail
        go_ret2
        exact ⟨rfl, rfl⟩
/-- What a new one says. -/
def gh0 (lo hi ap : Nat) : Gh := ⟨lo, hi, ap, nilV, nilV, nilV, .pointer none, nilV, nilV, nilV, none, none⟩
set_option maxRecDepth 100000 in
set_option maxHeartbeats 2000000 in
theorem new_any {T M : Nat → Prop} {self n : Nat} (w : World) (h1 : self < n) (h7 : n ≤ 7) (hT : ∀ k, T k → k < w.heap.size) :
    Calls Tryz.prog 25 #[.int .i64 (self : Int), .int .i64 (n : Int)] w fun e w' => ∃ p M G, e = .returned (.tuple #[.pointer (some ⟨p, 0, none⟩), .int .i64 0]) ∧ XIdle w' T M p (sg0 self n) G ∧ Upd [] w w' ∧ (∀ k, M k → w.heap.size ≤ k ∧ k < w'.heap.size) ∧ w.heap.size ≤ p := by
  have d1 : decide ((n : Int) < 1) = false := by simp; omega
  have d2 : decide ((7 : Int) < (n : Int)) = false := by simp; omega
  have d3 : decide ((self : Int) < 0) = false := by simp
  have d4 : decide ((n : Int) ≤ (self : Int)) = false := by simp; omega
  have d4' : decide (n ≤ self) = false := by simp; omega
  have HT := hide hT
  clear hT
  go_enter Tryz.func25, Tryz.ntmps25
  go_wp2_with fail
  refine (anew_any w).mono ?_
  rintro e w1 ⟨⟨ap, rfl, hap⟩, hu⟩
  have AP := hide hap; have U1 := hide hu
  clear hap hu d1 d2 d3 d4 d4'
  go_wp2_with fail
  go_ret2
  have hN := blk_new w1 (.cells (sgc (sg0 self n) (gh0 w.heap.size w1.heap.size ap)) TSg)
  have hal := (Upd.refl [] w1).alloc (.cells (sgc (sg0 self n) (gh0 w.heap.size w1.heap.size ap)) TSg)
  have hsz : (w1.alloc (.cells (sgc (sg0 self n) (gh0 w.heap.size w1.heap.size ap)) TSg)).heap.size = w1.heap.size + 1 := World.size_alloc _ _
  have hz := U1.out.size
  refine (show ∀ w2, w2.heap[w1.heap.size]? = some (.cells (sgc (sg0 self n) (gh0 w.heap.size w1.heap.size ap)) TSg (0, 0)) → Upd [] w1 w2 → w2.heap.size = w1.heap.size + 1 → ∃ p M G, Ending.returned (.tuple #[.pointer (some ⟨w1.heap.size, 0, none⟩), .int .i64 0]) = .returned (.tuple #[.pointer (some ⟨p, 0, none⟩), .int .i64 0]) ∧ XIdle w2 T M p (sg0 self n) G ∧ Upd [] w w2 ∧ (∀ k, M k → w.heap.size ≤ k ∧ k < w2.heap.size) ∧ w.heap.size ≤ p from ?_) _ hN hal hsz
  clear hN hal hsz
  intro w2 hN hal hsz
  refine ⟨w1.heap.size, fun k => w.heap.size ≤ k ∧ k ≤ w1.heap.size, gh0 w.heap.size w1.heap.size ap, rfl, ⟨hN, ⟨Own.nil _ _ _ _ _, Own.nil _ _ _ _ _, Own.nil _ _ _ _ _, Own.nil _ _ _ _ _, Own.nil _ _ _ _ _, ?_, fun k h1 h2 => ?_, ?_, Ky.zero _ _, ⟨rfl, rfl, rfl⟩, ⟨fun i j k hi hj => ?_, fun i k hi => ?_⟩, ⟨fun k hk hm => ?_, fun k hk => ?_, fun k hk => ?_⟩⟩⟩, U1.out.trans hal, fun k hk => ?_, ?_⟩
  · exact AP.out.upd_nil hal
  · exact ⟨h1, Nat.le_of_lt h2⟩
  · show w1.heap.size ≤ _; omega
  · have key : ∀ i, ((gh0 w.heap.size w1.heap.size ap).bare.names w1.heap.size)[i]? = some (some k) → i = 0 := fun i hi => by
      match i, hi with
      | 0, _ => rfl
      | 1, hi => cases hi
      | 2, hi => cases hi
      | 3, hi => cases hi
      | 4, hi => cases hi
      | 5, hi => cases hi
      | 6, hi => cases hi
      | 7, hi => cases hi
      | n + 8, hi => simp [Gh.names] at hi
    rw [key i hi, key j hj]
  · match i, hi with
    | 0, hi =>
      have e : w1.heap.size = k := by simpa [Gh.names] using hi
      subst e
      exact ⟨⟨hz, Nat.le_refl _⟩, by omega, .inr (Nat.le_refl _)⟩
    | 1, hi => cases hi
    | 2, hi => cases hi
    | 3, hi => cases hi
    | 4, hi => cases hi
    | 5, hi => cases hi
    | 6, hi => cases hi
    | 7, hi => cases hi
    | n + 8, hi => simp [Gh.names] at hi
  · have := HT.out k hk; have := hm.1; omega
  · have := HT.out k hk; omega
  · have := hk.2; omega
  · exact ⟨hk.1, by have := hk.2; omega⟩
  · exact hz
end Go.Proofs.YtanjnhohfcgapaaGreatDoor.Sg
namespace Go.Proofs.YtanjnhohfcgapaaGreatDoor.Sg
open Go.RowKit Go.Proofs.YtanjnhohfcgapaaGreatDoor.Crc Go.Proofs.YtanjnhohfcgapaaGreatDoor.Cm Go.Proofs.YtanjnhohfcgapaaGreatDoor.Tr Go.Proofs.YtanjnhohfcgapaaGreatDoor.Kv Go.Proofs.YtanjnhohfcgapaaGreatDoor.Au
set_option linter.unusedSimpArgs false
set_option linter.unusedVariables false
set_option maxRecDepth 100000 in
set_option maxHeartbeats 2000000 in
theorem take_step {T M : Nat → Prop} {p L : Nat} {x : Sg} {G : Gh} {m : Mg} {ks : Value} {f : Int} (w : World) (h : Hi w T M p L x G) (hL : L ≤ 10000) (hm : MgOk m) (hk : Ky w T ks m.cmd) :
    Calls Tryz.prog 33 #[.pointer (some ⟨p, 0, none⟩), .int .i64 f, mgv m ks] w fun e w' => ∃ v, e = .returned v ∧ Stepped w T M p (takeS f m x) v w' := by
  obtain ⟨xk, ck, rfl⟩ := hk.slice
  have HH := hide h; have K0 := hide hk; have HMO := hide hm
  have hpl := blk_lt h.at'.1
  clear h hk hm
  unfold mgv
  simp only [strV]
  go_enter Tryz.func33, Tryz.ntmps33
  go_upto_region 1 with fail
  have h0 := blk_alloc (blk_alloc (blk_alloc (blk_new w (.cells #[.pointer (some ⟨p, 0, none⟩)] 53)) (.cells #[.int .i64 f] 3)) (.cells (mgA m (.slice xk m.cmd.keys.length ck)) TMg)) (.cells #[.slice none 0 0, .slice none 0 0, .slice none 0 0] TOu)
  have h1 := blk_alloc (blk_alloc (blk_new (w.alloc (.cells #[.pointer (some ⟨p, 0, none⟩)] 53)) (.cells #[.int .i64 f] 3)) (.cells (mgA m (.slice xk m.cmd.keys.length ck)) TMg)) (.cells #[.slice none 0 0, .slice none 0 0, .slice none 0 0] TOu)
  have hm2 := blk_alloc (blk_new ((w.alloc (.cells #[.pointer (some ⟨p, 0, none⟩)] 53)).alloc (.cells #[.int .i64 f] 3)) (.cells (mgA m (.slice xk m.cmd.keys.length ck)) TMg)) (.cells #[.slice none 0 0, .slice none 0 0, .slice none 0 0] TOu)
  have h2 := blk_new (((w.alloc (.cells #[.pointer (some ⟨p, 0, none⟩)] 53)).alloc (.cells #[.int .i64 f] 3)).alloc (.cells (mgA m (.slice xk m.cmd.keys.length ck)) TMg)) (.cells #[.slice none 0 0, .slice none 0 0, .slice none 0 0] TOu)
  have hal := ((((Upd.refl [] w).alloc (.cells #[.pointer (some ⟨p, 0, none⟩)] 53)).alloc (.cells #[.int .i64 f] 3)).alloc (.cells (mgA m (.slice xk m.cmd.keys.length ck)) TMg)).alloc (.cells #[.slice none 0 0, .slice none 0 0, .slice none 0 0] TOu)
  simp only [World.size_alloc] at h1 hm2 h2
  change Code.wp _ _ _ _ ((((w.alloc (.cells #[.pointer (some ⟨p, 0, none⟩)] 53)).alloc (.cells #[.int .i64 f] 3)).alloc (.cells (mgA m (.slice xk m.cmd.keys.length ck)) TMg)).alloc (.cells #[.slice none 0 0, .slice none 0 0, .slice none 0 0] TOu))
  generalize (((w.alloc (.cells #[.pointer (some ⟨p, 0, none⟩)] 53)).alloc (.cells #[.int .i64 f] 3)).alloc (.cells (mgA m (.slice xk m.cmd.keys.length ck)) TMg)).alloc (.cells #[.slice none 0 0, .slice none 0 0, .slice none 0 0] TOu) = w1 at *
  have nn : ∀ j, w.heap.size ≤ j → ¬ M j ∧ ¬ T j := fun j hj => HH.out.at'.2.apt.new hj
  have NN := hide nn
  obtain ⟨B, hBn⟩ : ∃ B, w.heap.size = B := ⟨_, rfl⟩
  have HBN := hide hBn
  rw [hBn] at h0 h1 hm2 h2 hpl ⊢
  have A0 := hide h0; have A1 := hide h1; have AM := hide hm2; have A2 := hide h2; have AL := hide hal
  have HI1 := hide (HH.out.at'.upd_nil hal)
  have EN1 := hide (HH.out.env.upd_nil hal)
  have K1 := hide (K0.out.upd hal (by simp))
  have p0 : w1.cell? ⟨B, 0, none⟩ = some (.pointer (some ⟨p, 0, none⟩)) := blk_cell h0 rfl
  clear h0 h1 hm2 h2 hal hBn nn
  go_wp2_with fail
  refine (step_any (g := 64) (cap := #[.pointer (some ⟨B, 0, none⟩), .pointer (some ⟨B + 1, 0, none⟩), .pointer (some ⟨B + 1 + 1, 0, none⟩)]) (s := takeS f m x) w1 HI1.out (fun _ _ => rfl) (fun wx hu hX hE => ?_)).mono ?_
  · exact take1_any wx (Hi.hp ⟨HI1.out, EN1.out, HH.out.ok⟩ hX hE hu.size) hL HMO.out (hE.ky HI1.out.2.apt.apart K1.out) (hu.get A0.out (by simp; omega)) (hu.get A1.out (by simp; omega)) (hu.get AM.out (by simp; omega))
  · rintro e w2 ⟨v, rfl, hst⟩
    obtain ⟨x1, n1, c1, x2, n2, c2, x3, n3, c3, rfl⟩ := hst.slices
    have ST := hide hst
    have hB2 : w2.heap[B + 1 + 1 + 1]? = some (.cells #[.slice none 0 0, .slice none 0 0, .slice none 0 0] TOu (0, 0)) := by
      obtain ⟨T', M', G', sv, av, dv, -, -, hE, -⟩ := hst
      exact hE.get A2.out (NN.out _ (by have := HBN.out; omega)).1
    have b0 : w2.cell? ⟨B + 1 + 1 + 1, 0, none⟩ = some (.slice none 0 0) := blk_cell hB2 rfl
    have b1 : w2.cell? ⟨B + 1 + 1 + 1, 1, none⟩ = some (.slice none 0 0) := blk_cell hB2 rfl
    have b2 : w2.cell? ⟨B + 1 + 1 + 1, 2, none⟩ = some (.slice none 0 0) := blk_cell hB2 rfl
    have bf : ∀ i, w2.frozen? ⟨B + 1 + 1 + 1, i, none⟩ = false := fun i => blk_free hB2
    have HB2 := hide hB2
    have hlt := blk_lt A2.out
    clear hst hB2
    go_wp2_with fail
    have us := upd3 w2 (B + 1 + 1 + 1) (.slice x1 n1 c1) (.slice x2 n2 c2) (.slice x3 n3 c3)
    exact ret_ou (set3 HB2.out) rfl rfl rfl ⟨_, rfl, ST.out.ret AL.out hlt (by have := HBN.out; omega) (NN.out _ (by have := HBN.out; omega)) us⟩
end Go.Proofs.YtanjnhohfcgapaaGreatDoor.Sg
