/- The document's All: all frames of bytes. -/
import Derived.Test.YtmgdhloehkdffaaDoorRefF
namespace Go.Proofs.YtmgdhloehkdffaaDoor.Ref
open Go.RowKit Go.Proofs.YtmgdhloehkdffaaDoor.Var Go.Proofs.YtmgdhloehkdffaaDoor.Crc Go.Proofs.YtmgdhloehkdffaaDoor.Fr

/-- Slices as values, each reading as bytes. -/
def Elems (w : World) (ls : List (List UInt8)) (vs : List Value) : Prop := ∀ (i : Nat) (l : List UInt8), ls[i]? = some l → ∃ (xo : Option Addr) (n c : Nat), vs[i]? = some (Value.slice xo n c) ∧ SrcAt w xo n c (l.map u8v) 1 ∧ n ≤ c ∧ c ≤ maxLen
theorem Elems.snoc {w : World} {ls : List (List UInt8)} {vs : List Value} {l : List UInt8} {xo : Option Addr} {n c : Nat} (h : Elems w ls vs) (hl : vs.length = ls.length) (hs : SrcAt w xo n c (l.map u8v) 1) (hn : n ≤ c) (hc : c ≤ maxLen) : Elems w (ls ++ [l]) (vs ++ [.slice xo n c]) := by
  intro i l' hi
  rw [List.getElem?_append] at hi
  split at hi
  · rename_i hlt
    obtain ⟨xo', n', c', h1, h2⟩ := h i l' hi
    exact ⟨xo', n', c', by rw [List.getElem?_append_left (by omega)]; exact h1, h2⟩
  · rename_i hge
    have hq : i - ls.length = 0 := by
      rcases hq : i - ls.length with _ | j
      · rfl
      · rw [hq] at hi; simp at hi
    rw [hq] at hi
    simp at hi
    subst hi
    exact ⟨xo, n, c, by rw [List.getElem?_append_right (by omega), show i - vs.length = 0 by omega]; rfl, hs, hn, hc⟩
theorem Elems.reads {w w' : World} {base : Nat} {v : Value} {ls : List (List UInt8)} {vs : List Value} (h : Elems w ls vs) (hr : w'.ownsRow base 22 1 v ls.length vs) (hu : Upd [] w w') : ReadsRows w' v ls := by
  obtain ⟨ao, cap, rfl, h1, h2, h3⟩ := owns_slice hr
  refine ⟨ao, cap, rfl, h1, h2, fun i l hi => ?_⟩
  obtain ⟨xo, n, c, hv, hs, hn, hc⟩ := h i l hi
  obtain ⟨g, rfl, -, -, hcell⟩ := h3 i _ hv
  exact ⟨g, 0, xo, n, c, rfl, by rw [Nat.zero_add]; exact hcell, src_upd_nil hs hu, hn, hc⟩

theorem take_src {w : World} {xo : Option Addr} {m c l n : Nat} {bs : List UInt8} (hs : SrcAt w xo m c (bs.map u8v) 1) (hmc : m ≤ c) (he : (take bs).2.2 = 0) (hn : n = (take bs).1.length) (hln : l + n = (take bs).2.1) :
    SrcAt w (cutAt xo l c) n (c - l) ((take bs).1.map u8v) 1 := by
  have hlen : bs.length = m := by have := hs.len; simpa using this
  obtain ⟨t1, t2, t3, t4, t5⟩ := take_ok (bs := bs) (x := (take bs).1) (n := (take bs).2.1) (by rw [← he])
  rw [fr_len] at t5
  have h1 := src_cut (l := l) (h := l + n) (q := c) hs (by omega) (by omega) (by omega) (Nat.le_refl _)
  rw [show l + n - l = n by omega] at h1
  have e2 : (bs.drop l).take n = (take bs).1 := by
    have h2 := congrArg (List.drop l) t4
    rw [List.drop_take, show (take bs).2.1 - l = n by omega] at h2
    rw [h2]
    have e3 : l = (uv (take bs).1.length ++ le4 (Crc.sum (take bs).1)).length := by
      simp only [List.length_append, le4_len]; omega
    rw [e3]
    unfold fr
    rw [List.drop_left]
  rw [e2] at h1
  exact h1
set_option maxRecDepth 100000 in
set_option maxHeartbeats 4000000 in
theorem all_in {w0 : World} {xo : Option Addr} {m c : Nat} {bs : List UInt8} (w : World) (hs0 : SrcAt w0 xo m c (bs.map u8v) 1) (hs : SrcAt w xo m c (bs.map u8v) 1) (hmc : m ≤ c) (hc : c ≤ maxLen) (hm : m ≤ 1000000000000) :
    Calls Tryd.prog 15 #[.slice xo m c] w fun e w' => ∃ v vs, e = .returned (.tuple #[v, .int .i64 ((all bs).2.1 : Nat), .int .i64 (all bs).2.2]) ∧ w'.ownsRow w.heap.size 22 1 v (all bs).1.length vs ∧ Elems w0 (all bs).1 vs ∧ Upd [] w w' := by
  have hlen : bs.length = m := by have := hs.len; simpa using this
  have HS := hide hs; have HS0 := hide hs0; have HL := hide hlen
  obtain ⟨i1, hi1, hy0, hy1, hy2⟩ := info_parts infoR
  clear hs hs0 hlen
  go_enter Tryd.func15, Tryd.ntmps15
  go_wp2_with fail
  go_loopw [5, 6] (fun so sa wr => ∃ (p q : Nat) (ls : List (List UInt8)) (vs : List Value) (ao : Option Addr) (cap : Nat), p ≤ m ∧ so = .slice ao q cap ∧ sa = .int .i64 p ∧ q = ls.length ∧ q ≤ p ∧ Upd [] w wr ∧
      wr.ownsRow w.heap.size 22 1 (.slice ao q cap) q vs ∧ Elems w0 ls vs ∧ all bs = (ls ++ (all (bs.drop p)).1, p + (all (bs.drop p)).2.1, (all (bs.drop p)).2.2)) (fun _ sa _ => m - (intOf sa).toNat)
  case atStart => exact ⟨0, 0, [], [], none, 0, by omega, rfl, rfl, rfl, by omega, Upd.refl _ _, ⟨rfl, .inl ⟨rfl, rfl⟩⟩, fun i l h => by simp at h, by simp⟩
  case round =>
    obtain ⟨p, q, ls, vs, ao, cap, hp, rfl, rfl, hq, hqp, hu, ho, hel, hall⟩ := hrel
    have HQ := hide hq; have HU := hide hu; have HO := hide ho; have HE := hide hel; have HA := hide hall
    clear hq hu ho hel hall
    by_cases hlt : p < m
    · have d1 : decide ((p : Int) < m) = true := by simp; omega
      have d1' : decide (p < m) = true := by simpa using hlt
      have r1 := run_cut_l (P := Tryd.prog) 22 5 Tryd.underlying22 sizeB xo m c p (p : Int) rfl (by omega)
      have hs1 := src_cut (l := p) (h := m) (q := c) HS.out hp (Nat.le_refl _) hmc (Nat.le_refl _)
      rw [List.take_of_length_le (by rw [List.length_drop, HL.out]; exact Nat.le_refl _)] at hs1
      have hne : bs.drop p ≠ [] := fun h => by have h5 := congrArg List.length h; rw [List.length_drop, HL.out] at h5; simp only [List.length_nil] at h5; omega
      have hs10 := src_cut (l := p) (h := m) (q := c) HS0.out hp (Nat.le_refl _) hmc (Nat.le_refl _)
      rw [List.take_of_length_le (by rw [List.length_drop, HL.out]; exact Nat.le_refl _)] at hs10
      have HS10 := hide hs10
      clear hs10
      have HS1 := hide hs1; have HNE := hide hne
      clear hs1 hne
      go_wp2_with fail
      refine (take3_any _ (src_upd_nil HS1.out HU.out) (by omega) (by omega)).mono ?_
      rintro e w2 ⟨hu2, (⟨he, rfl⟩ | ⟨he, l', n, hn, hln, rfl, hsrc, hnc⟩)⟩
      · have hae := all_err HNE.out he
        have U2 := hide (HU.out.trans hu2)
        obtain ⟨er, her⟩ : ∃ er, (take (bs.drop p)).2.2 = er := ⟨_, rfl⟩
        rw [her] at he hae ⊢
        have q1 : (er == 0) = false := by simpa using he
        have AE := hide (show all bs = (ls, p, er) by rw [HA.out, hae]; simp)
        have OO := hide (owns_upd HO.out hu2 (by simp))
        clear hae hu2 he her
        go_wp2_with fail
        go_ret3
        refine ⟨_, vs, by rw [AE.out]; rfl, ?_, by rw [AE.out]; exact HE.out, U2.out⟩
        rw [AE.out]
        simp only [← HQ.out]
        exact OO.out
      · have hao := all_ok HNE.out he
        have htl := Fr.take_len he
        have hdl : (bs.drop p).length = m - p := by rw [List.length_drop, HL.out]
        rw [hdl] at htl
        obtain ⟨N, hN⟩ : ∃ N, (take (bs.drop p)).2.1 = N := ⟨_, rfl⟩
        obtain ⟨ins, hins⟩ : ∃ ins, (take (bs.drop p)).1 = ins := ⟨_, rfl⟩
        rw [hN] at hln htl hao ⊢
        rw [hins] at hn hao hsrc
        have HSR := hide (take_src (l := l') (n := n) HS10.out (by omega) he (by rw [hins]; exact hn) (by rw [hN]; exact hln))
        rw [hins] at HSR
        have U2 := hide (HU.out.trans hu2)
        have OO := hide (owns_upd HO.out hu2 (by simp))
        have AE := hide (show all bs = ((ls ++ [ins]) ++ (all (bs.drop (p + N))).1, (p + N) + (all (bs.drop (p + N))).2.1, (all (bs.drop (p + N))).2.2) by
          rw [HA.out, hao, List.drop_drop]; simp [Nat.add_assoc])
        have hz2 : w.heap.size ≤ w2.heap.size := U2.out.size
        clear hao hu2 he hN hins hn hsrc hln
        go_wp2_with (at_builtin; go_must (refine wpList_append_src _ rfl _ _ 30 rfl w.heap.size 22 i1 (.slice none 0 0) 1 24 Tryd.underlying30 hi1 hy0 hy1 hy2 rfl (by decide) (.slice ao q cap) q vs rfl (OO.out.alloc _) (some ⟨w2.heap.size, 0, none⟩) 1 1 [.slice (cutAt (cutAt xo p c) l' (c - p)) n (c - p - l')] rfl (src_one (cell_new1 rfl) rfl) (by unfold maxLen; omega) (by omega) (by simp; omega) ?_))
        intro ao3 cap3 w3 hown3 hU3 hn3
        have U3 := hide ((U2.out.alloc _).trans_new hU3 (fun k hk => by
          simp only [Option.mem_toList] at hk
          exact .inr (owns_lt OO.out k hk).1))
        have O3 := hide hown3
        clear hown3 hU3 hn3
        go_wp2_with fail
        go_roundw
        case rel => exact ⟨p + N, q + 1, ls ++ [ins], _, ao3, cap3, by omega, rfl, by go_num, by simp [HQ.out], by omega, U3.out, O3.out, HE.out.snoc (by have := OO.out.1; rw [← HQ.out]; simpa using this) HSR.out (by omega) (by omega), AE.out⟩
        case measure => simp [intOf]; omega
    · have d1 : decide ((p : Int) < m) = false := by simp; omega
      have d1' : decide (p < m) = false := by simpa using hlt
      have hpm : p = m := by omega
      have AE := hide (show all bs = (ls, p, 0) by
        rw [HA.out, List.drop_eq_nil_of_le (by rw [HL.out]; omega), all_nil]; simp)
      clear hpm
      go_wp2_with fail
      go_ret3
      refine ⟨_, vs, by rw [AE.out]; rfl, ?_, by rw [AE.out]; exact HE.out, HU.out⟩
      rw [AE.out]
      simp only [← HQ.out]
      exact HO.out
theorem all_any {xo : Option Addr} {m c : Nat} {bs : List UInt8} (w : World) (hs : SrcAt w xo m c (bs.map u8v) 1) (hmc : m ≤ c) (hc : c ≤ maxLen) (hm : m ≤ 1000000000000) :
    Calls Tryd.prog 15 #[.slice xo m c] w fun e w' => ∃ v vs, e = .returned (.tuple #[v, .int .i64 ((all bs).2.1 : Nat), .int .i64 (all bs).2.2]) ∧ w'.ownsRow w.heap.size 22 1 v (all bs).1.length vs ∧ Elems w (all bs).1 vs ∧ Upd [] w w' :=
  all_in w hs hs hmc hc hm
end Go.Proofs.YtmgdhloehkdffaaDoor.Ref
