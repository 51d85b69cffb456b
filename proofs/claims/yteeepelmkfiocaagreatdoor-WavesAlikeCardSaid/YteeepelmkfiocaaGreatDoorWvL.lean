/- keyset.Lone. -/
import Derived.Test.YteeepelmkfiocaaGreatDoorKvTc
import Derived.Test.YteeepelmkfiocaaGreatDoorKvD
import Derived.Test.YteeepelmkfiocaaGreatDoorWvPure
namespace Go.Proofs.YteeepelmkfiocaaGreatDoor.Kv
set_option linter.unusedSimpArgs false
set_option linter.unusedVariables false
set_option linter.unnecessarySimpa false
open Go.RowKit Go.Lib Go.Proofs.YteeepelmkfiocaaGreatDoor.Crc Go.Proofs.YteeepelmkfiocaaGreatDoor.Cm
set_option maxRecDepth 100000 in
set_option maxHeartbeats 2000000 in
theorem lone_any {T : Nat → Prop} {v : Value} {c : Cm} (w : World) (hc : CmAt w T v c) (hk : c.keys.length ≤ 1000000) :
    Calls Tryz.prog 55 #[v] w fun e w' => e = .returned (.bool (loneM c)) ∧ Upd [] w w' := by
  obtain ⟨fit, ks, rfl, hks⟩ := hc
  obtain ⟨xo, cp, rfl, h1, h2, hget⟩ := hks.get
  simp only [maxLen] at h2
  have KS := hide hks; have FIT := hide fit
  clear hget hks fit
  obtain ⟨r, hr⟩ : ∃ r, loneM c = r := ⟨_, rfl⟩
  rw [hr]
  have HR := hide hr
  clear hr
  unfold cmv
  simp only [strV]
  go_enter Tryz.func55, Tryz.ntmps55
  go_upto_region 1 with fail
  have hB := blk_new w (.cells (cmc c (.slice xo c.keys.length cp)).toArray TCmd)
  have hu := (Upd.refl [] w).alloc (.cells (cmc c (.slice xo c.keys.length cp)).toArray TCmd)
  change Code.wp _ _ _ _ (w.alloc (.cells (cmc c (.slice xo c.keys.length cp)).toArray TCmd))
  generalize w.alloc (.cells (cmc c (.slice xo c.keys.length cp)).toArray TCmd) = w1 at *
  have U1 := hide hu; have KS1 := hide (KS.out.upd_nil hu); have CB := hide hB
  clear hB hu
  obtain ⟨p0, p1, p2, p3, p4, p5, p6⟩ := cell7 CB.out
  go_wp2_with fail
  have hta := touches_any (c := c) (v := cmv c (.slice xo c.keys.length cp)) w1 ⟨FIT.out, _, rfl, KS1.out⟩ (by omega)
  simp only [cmv, strV] at hta
  refine hta.mono ?_
  rintro e w2 ⟨⟨vx, rfl, hx⟩, hu2⟩
  obtain ⟨ox, cx, rfl, hx1, hx2, -⟩ := hx.get
  simp only [maxLen] at hx2
  have U2 := hide (U1.out.trans hu2)
  have hrr := HR.out
  unfold loneM at hrr
  clear hta hu2 hx p0 p1 p2 p3 p4 p5 p6
  generalize (sortM c.keys).length = n at *
  go_wp2_with fail
  go_ret
  refine ⟨?_, U2.out⟩
  rw [← hrr]
  simp
  try omega
end Go.Proofs.YteeepelmkfiocaaGreatDoor.Kv
