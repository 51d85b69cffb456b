/- cmd.Batch. -/
import Derived.Test.YtfmaflaoplkdbaaGreatDoorTrIb
set_option linter.unusedSimpArgs false
set_option linter.unusedVariables false
set_option linter.unnecessarySimpa false
namespace Go.Proofs.YtfmaflaoplkdbaaGreatDoor.Tr
open Go.RowKit Go.Lib Go.Proofs.YtfmaflaoplkdbaaGreatDoor.Crc Go.Proofs.YtfmaflaoplkdbaaGreatDoor.Cm Go.Proofs.YtfmaflaoplkdbaaGreatDoor.Var

def batchM (l : List Cm) : List UInt8 := uv l.length ++ l.flatMap oneM
set_option maxRecDepth 100000 in
set_option maxHeartbeats 2000000 in
theorem batch_any {T : Nat → Prop} {v : Value} {l : List Cm} (w : World) (h : cmK.row w T v l) (hT : ∀ k, T k → k < w.heap.size) (hcnt : CntAt w) (h8 : l.length ≤ 8) (hg : ∀ c ∈ l, Cm.Good c ∧ c.n = 0) :
    Calls Tryz.prog 9 #[v] w fun e w' => (∃ v', e = .returned (.tuple #[v', .int .i64 0]) ∧ Bts w' (since w.heap.size w') v' (batchM l)) ∧ Upd [] w w' := by
  have H := hide h; have HC := hide hcnt; have HGD := hide hg; have HT := hide hT
  obtain ⟨xo, cp, rfl, h1, h2, hgt⟩ := cm_get h
  have HG := hide hgt
  simp only [maxLen] at h2
  have d8 : decide ((8 : Int) < (l.length : Int)) = false := by simp; omega
  clear h hcnt hg hgt hT
  go_enter Tryz.func9, Tryz.ntmps9
  go_wp2_with fail
  refine (anyb_any _ H.out HC.out (fun c hc => (HGD.out c hc).1)).mono ?_
  rintro e w1 ⟨rfl, hu1⟩
  have U1 := hide hu1
  have hz1 := hu1.size
  clear hu1
  have v8 : IntKind.u64.wrap (l.length : Int) = (l.length : Int) := IntWalk.u64_in _ (by omega)
  go_wp2_with fail
  refine (uint_any (base := w.heap.size) (bs := []) (n := l.length) _ (World.ownsRow_nil _ _ _ _) hz1 (by simp) (by omega)).mono ?_
  obtain ⟨B0, hB0⟩ : ∃ B0, [] ++ uv l.length = B0 := ⟨_, rfl⟩
  rw [hB0]
  rintro e w2 ⟨v2, rfl, g2⟩
  have hl0 : B0.length ≤ 10 := by rw [← hB0]; exact uv_len10 (by omega)
  have U2 := hide (U1.out.trans_new g2.upd (by simp [Value.ownBlock]))
  have O2 := hide g2.own; have HB0 := hide hB0
  have hz2 := g2.upd.size
  obtain ⟨a2, p2, rfl, -, -, -⟩ := owns_slice g2.own
  clear g2 hB0
  go_wp2_with fail
  go_loopw [4, 20] (fun sv si wr => ∃ (k : Nat) (B : List UInt8), k ≤ l.length ∧ si = .int .i64 k ∧ B = B0 ++ (l.take k).flatMap oneM ∧ B.length ≤ 10 + 1000 * k ∧ wr.ownsRow w.heap.size 5 1 sv B.length (B.map u8v) ∧ w.heap.size ≤ wr.heap.size ∧ Upd [] w wr) (fun _ si _ => l.length - (intOf si).toNat)
  case atStart => exact ⟨0, B0, by omega, rfl, by simp, by omega, O2.out, by omega, U2.out⟩
  case round =>
    obtain ⟨k, B, hk, rfl, hB, hBl, ho, hz, hu⟩ := hrel
    have HB := hide hB; have HO := hide ho; have HU := hide hu; have HOL := hide (owns_lt ho)
    obtain ⟨ar, pr, rfl, -, -, -⟩ := owns_slice ho
    clear hB ho hu
    by_cases hlt : k < l.length
    · have d5 : decide ((k : Int) < l.length) = true := by simp; omega
      have d5' : decide (k < l.length) = true := by simpa using hlt
      obtain ⟨c, hp⟩ : ∃ c, l[k]? = some c := ⟨_, List.getElem?_eq_getElem hlt⟩
      obtain ⟨hgd, hn⟩ := HGD.out c (List.mem_of_getElem? hp)
      obtain ⟨b, o, ka, kc, rfl, hb, hTb, fit, hks, hcells⟩ := HG.out k c hp
      obtain ⟨c0, c1, c2, c3, c4, c5, c6⟩ := hcells.upd HU.out hb (by simp)
      have hfm := flat_more oneM hp
      have hol := oneM_len fit hgd
      obtain ⟨B', hB'⟩ : ∃ B', B ++ oneM c = B' := ⟨_, rfl⟩
      have hBl' : B'.length ≤ 10 + 1000 * (k + 1) := by rw [← hB', List.length_append]; omega
      have hb5 : B' = B0 ++ (l.take (k + 1)).flatMap oneM := by rw [← hB', HB.out, ← hfm]; simp
      have HB5 := hide hb5; have KS := hide hks; have FIT := hide fit; have HGC := hide hgd; have HB' := hide hB'; have HN := hide hn
      clear hp hks fit hcells hfm hgd hol hb5 hB' hn
      go_wp2_with fail
      have hA := (Upd.refl [] wr).alloc (.cells #[.int .u32 (c.client : Int), .int .u32 (c.seq : Int), .int .u8 (c.kind : Int), .slice ka c.keys.length kc, .string (strOf c.old), .string (strOf c.new), .int .i64 c.n] TCmd)
      generalize wr.alloc (.cells #[.int .u32 (c.client : Int), .int .u32 (c.seq : Int), .int .u8 (c.kind : Int), .slice ka c.keys.length kc, .string (strOf c.old), .string (strOf c.new), .int .i64 c.n] TCmd) = w3 at *
      have hz3 := hA.size
      refine (put_any (base := w.heap.size) (bs := B) (c := c) w3 (owns_upd HO.out hA (by simp)) (by omega) (by omega) ⟨FIT.out, _, rfl, KS.out.upd_nil (HU.out.trans hA)⟩ HT.out HGC.out HN.out).mono ?_
      rw [HB'.out]
      rintro e w4 ⟨v4, rfl, g4⟩
      obtain ⟨a4, p4, rfl, -, -, -⟩ := owns_slice g4.own
      have U4 := hide ((HU.out.trans hA).trans_new g4.upd (fun g hm => .inr (by have := (HOL.out _ (by simpa using hm)).1; omega)))
      have hz4 : w.heap.size ≤ w4.heap.size := by have := g4.upd.size; omega
      have O4 := hide g4.own
      clear g4 hA c0 c1 c2 c3 c4 c5 c6
      go_wp2_with fail
      go_roundw
      case rel => exact ⟨k + 1, B', by omega, by go_num, HB5.out, hBl', O4.out, hz4, U4.out⟩
      case measure => simp [intOf]; omega
    · have d5 : decide ((k : Int) < l.length) = false := by simp; omega
      have d5' : decide (k < l.length) = false := by simpa using hlt
      have hfin : B = batchM l := by
        have := HB0.out
        rw [HB.out, List.take_of_length_le (by omega), ← this]; simp only [batchM, List.nil_append]
      have HFIN := hide hfin
      clear hfin
      go_wp2_with fail
      go_ret2
      rw [← HFIN.out]
      obtain ⟨ao', cap', e1, q1, q2, -⟩ := owns_slice HO.out
      cases e1
      refine ⟨⟨_, rfl, ar, B.length, pr, rfl, src_ownB HO.out, q1, q2, fun a ha hm => ?_⟩, HU.out⟩
      rcases HO.out.2 with ⟨e2, e3⟩ | ⟨g, c', cur, e2, -⟩
      · exact absurd e3 hm
      · cases e2; cases ha; exact ⟨(HOL.out _ rfl).1, (HOL.out _ rfl).2⟩
end Go.Proofs.YtfmaflaoplkdbaaGreatDoor.Tr
