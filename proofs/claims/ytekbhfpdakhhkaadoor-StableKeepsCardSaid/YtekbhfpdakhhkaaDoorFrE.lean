/- frame.each: the frames of bytes, as an iterator. -/
import Derived.Test.YtekbhfpdakhhkaaDoorFrP
namespace Go.Proofs.YtekbhfpdakhhkaaDoor.Fr
open Go.RowKit Go.Proofs.YtekbhfpdakhhkaaDoor.Var Go.Proofs.YtekbhfpdakhhkaaDoor.Crc

/-- What is yielded: where an inside lies, its bytes, the error. -/
abbrev Fy := Option Addr × List UInt8 × Int
def eachF : Nat → Option Addr → Nat → List UInt8 → List Fy
  | 0, _, _, _ => []
  | f + 1, xo, c, bs =>
    if bs = [] then []
    else if (take bs).2.2 ≠ 0 then [(none, [], (take bs).2.2)]
    else (cutAt xo ((take bs).2.1 - (take bs).1.length) (take bs).2.1, (take bs).1, 0) :: eachF f (cutAt xo (take bs).2.1 c) (c - (take bs).2.1) (bs.drop (take bs).2.1)
theorem eachF_more {f g c : Nat} {xo : Option Addr} {bs : List UInt8} (hf : bs.length ≤ f) (hg : bs.length ≤ g) : eachF f xo c bs = eachF g xo c bs := by
  induction f generalizing g xo c bs with
  | zero =>
    have : bs = [] := List.length_eq_zero_iff.1 (by omega)
    subst this
    cases g <;> simp [eachF]
  | succ f ih =>
    cases g with
    | zero =>
      have : bs = [] := List.length_eq_zero_iff.1 (by omega)
      subst this
      simp [eachF]
    | succ g =>
      unfold eachF
      split
      · rfl
      · split
        · rfl
        · rename_i h1 h2
          simp only [ne_eq, Decidable.not_not] at h2
          have := take_len h2
          rw [ih (g := g) (by simp; omega) (by simp; omega)]
def eachL (xo : Option Addr) (c : Nat) (bs : List UInt8) : List Fy := eachF bs.length xo c bs
theorem eachL_nil (xo : Option Addr) (c : Nat) : eachL xo c [] = [] := rfl
theorem eachL_err {xo : Option Addr} {c : Nat} {bs : List UInt8} (h0 : bs ≠ []) (h : (take bs).2.2 ≠ 0) : eachL xo c bs = [(none, [], (take bs).2.2)] := by
  obtain ⟨f, hf⟩ : ∃ f, bs.length = f + 1 := ⟨bs.length - 1, by have := List.length_pos_iff.2 h0; omega⟩
  unfold eachL
  rw [hf, eachF, if_neg h0, if_pos h]
theorem eachL_ok {xo : Option Addr} {c : Nat} {bs : List UInt8} (h0 : bs ≠ []) (h : (take bs).2.2 = 0) :
    eachL xo c bs = (cutAt xo ((take bs).2.1 - (take bs).1.length) (take bs).2.1, (take bs).1, 0) :: eachL (cutAt xo (take bs).2.1 c) (c - (take bs).2.1) (bs.drop (take bs).2.1) := by
  obtain ⟨f, hf⟩ : ∃ f, bs.length = f + 1 := ⟨bs.length - 1, by have := List.length_pos_iff.2 h0; omega⟩
  have hl := take_len h
  have e : eachL (cutAt xo (take bs).2.1 c) (c - (take bs).2.1) (bs.drop (take bs).2.1) = eachF f (cutAt xo (take bs).2.1 c) (c - (take bs).2.1) (bs.drop (take bs).2.1) := eachF_more (Nat.le_refl _) (by simp; omega)
  rw [e]
  unfold eachL
  rw [hf, eachF, if_neg h0, if_neg (by simpa using h)]
/-- The blocks that a slice lies in. -/
def blkOf (xo : Option Addr) : List Nat := xo.toList.map (·.block)
def blkM (m : Nat) (xo : Option Addr) : List Nat := if m = 0 then [] else blkOf xo
theorem blkOf_mem {xo : Option Addr} {a : Addr} (h : xo = some a) : a.block ∈ blkOf xo := by subst h; simp [blkOf]
theorem cutAt_block {xo : Option Addr} {l c : Nat} {a : Addr} (h : cutAt xo l c = some a) : ∃ b, xo = some b ∧ b.block = a.block := by
  unfold cutAt at h
  split at h
  · exact ⟨a, h, rfl⟩
  · cases xo with
    | none => cases h
    | some b =>
      cases h
      exact ⟨b, rfl, by unfold Addr.add; split <;> rfl⟩
theorem src_keeps {w w' : World} {K : List Nat} {xo : Option Addr} {m cp : Nat} {xs : List Value} (h : SrcAt w xo m cp xs 1) (hk : Keeps K w w') (hK : ∀ a, xo = some a → m ≠ 0 → a.block ∈ K) : SrcAt w' xo m cp xs 1 :=
  ⟨h.len, h.one, h.nil, fun a e j u hj => by
    have h1 := h.cells a e j u hj
    have hb : (a.add j).block = a.block := by unfold Addr.add; split <;> rfl
    have hm : m ≠ 0 := by
      intro h0
      have := h.len
      rw [h0] at this
      simp at this
      rw [this] at hj
      simp at hj
    have h3 := hk.2 _ (hK a e hm)
    rw [← hb] at h3
    rw [← h1]
    simp only [World.cell?, h3]⟩
theorem TabAt.keeps {K : List Nat} {w w' : World} (h : TabAt w) (hk : Keeps K w w') (hK : 0 ∈ K) : TabAt w' := fun i hi => by
  have h1 := h i hi
  have h2 := hk.2 _ hK
  rw [← h1]
  simp only [World.cell?, h2]

set_option maxHeartbeats 400000 in
theorem each_any {xo : Option Addr} {m c : Nat} (w : World) :
    Calls Tryd.prog 60 #[.slice xo m c] w fun e w' => e = .returned (.func (.func 81) #[] #[.pointer (some ⟨w.heap.size, 0, none⟩)]) ∧
      w'.heap[w.heap.size]? = some (.cells #[.slice xo m c] 36 (0, 0)) ∧ Upd [] w w' := by
  go_enter Tryd.func60, Tryd.ntmps60
  go_wp2_with fail
  go_ret
  exact ⟨rfl, blk_new _ _, (Upd.refl _ _).alloc _⟩

set_option maxHeartbeats 4000000 in
theorem each_iter {p m c : Nat} {xo : Option Addr} {bs : List UInt8} (hmc : m ≤ c) (hc : c ≤ maxLen) (hp0 : p ≠ 0) (hpx : ∀ a, xo = some a → m ≠ 0 → a.block ≠ p) :
    Iter Tryd.prog 81 #[] #[.pointer (some ⟨p, 0, none⟩)] (fun x : Fy => #[.slice x.1 x.2.1.length x.2.1.length, .int .i64 x.2.2]) (eachL xo c bs) (p :: 0 :: blkM m xo) [p]
      (fun W => W.heap[p]? = some (.cells #[.slice xo m c] 36 (0, 0)) ∧ SrcAt W xo m c (bs.map u8v) 1 ∧ TabAt W) := by
  rintro nn l0 J Jx W ⟨hR, hs, hst⟩ hY hJ hJx hJ0
  refine callsIn_wide.2 ?_
  go_enter Tryd.func81, Tryd.ntmps81
  have HR := hide hR
  have HY := hide hY
  have HJ := hide hJ
  have HJx := hide hJx
  have HJ0 := hide hJ0
  have HS := hide hs
  have HST := hide hst
  have HPX := hide hpx
  clear hR hY hJ hJx hJ0 hs hst hpx
  go_wp2_with fail
  go_loopw [6] (fun _ wr => ∃ (yo : Option Addr) (k d : Nat) (cs : List UInt8) (pre : List Fy), k ≤ d ∧ d ≤ maxLen ∧ eachL xo c bs = pre ++ eachL yo d cs ∧ wr.heap[p]? = some (.cells #[.slice yo k d] 36 (0, 0)) ∧ SrcAt wr yo k d (cs.map u8v) 1 ∧ TabAt wr ∧ J pre wr ∧
      (∀ a, yo = some a → k ≠ 0 → a.block ≠ p ∧ a.block ∈ blkM m xo) ∧ k ≤ m)
    (fun _ wr => match wr.cell? ⟨p, 0, none⟩ with | some (.slice _ k _) => k | _ => 0)
  case atStart =>
    refine ⟨xo, m, c, bs, [], hmc, hc, rfl, HR.out, HS.out, HST.out, HJ0.out, fun a e h0 => ⟨HPX.out a e h0, ?_⟩, Nat.le_refl _⟩
    rw [blkM, if_neg h0]
    exact blkOf_mem e
  case round =>
    obtain ⟨yo, k, d, cs, pre, hkd, hdm, hpre, hp, hs, hst, hj, hblk, hkm⟩ := hrel
    have hc := blk_cell (i := 0) hp rfl
    have hf := blk_free (i := 0) hp
    simp only [List.getElem_toArray, List.getElem_cons_zero] at hc
    have hlen : cs.length = k := by have := hs.len; simpa using this
    have HP := hide hp; have HPRE := hide hpre; have HJ2 := hide hj; have HS2 := hide hs; have HST2 := hide hst; have HB := hide hblk; have HL := hide hlen
    clear hp hpre hj hs hst hblk hlen HR HJ0 HS HST
    by_cases hk0 : 0 < k
    · have hd : decide (0 < k) = true := by simpa using hk0
      have hd2 : decide ((0 : Int) < k) = true := by simpa using hk0
      have hne : cs ≠ [] := fun h => by have := HL.out; rw [h] at this; simp at this; omega
      have HNE := hide hne
      clear hne
      go_wp2_with fail
      refine (take_any _ HST2.out HS2.out hkd hdm).mono ?_
      rintro e w2 ⟨hu2, (⟨he, rfl⟩ | ⟨he, l', n, hn, hln, rfl, hsrc⟩)⟩
      · obtain ⟨er, her⟩ : ∃ er, (take cs).2.2 = er := ⟨_, rfl⟩
        have HEL := hide (eachL_err (xo := yo) (c := d) HNE.out he)
        have q1 : (er == 0) = false := by rw [← her]; simpa using he
        rw [her] at HEL ⊢
        have U2 := hide hu2
        clear hu2 he her
        go_upto_region 2 with fail
        have HJ3 := hide (HJ.out _ _ _ HJ2.out (U2.out.mono (by simp)))
        obtain ⟨fn, tmps, assign, body, hy, hR⟩ := HY.out pre (none, [], er) w2 HJ3.out (by rw [HPRE.out, HEL.out]; exact List.prefix_refl _)
        replace hy : (Instr.yield l0 #[.slice none 0 0, .int .i64 er]).run Tryd.prog w2 = .ok (.round l0 fn tmps assign body) w2 := hy
        have HRR := hide hR
        clear hR
        refine (wpIn_wide (n := nn + 1)).1 ?_
        gi_wp2
        refine HRR.out.mono ?_
        rintro e W' (⟨rfl, hj3, hk3⟩ | ⟨rfl, hjx3⟩)
        · have HE := hide (show J (eachL xo c bs) W' by rw [HPRE.out, HEL.out]; exact hj3)
          clear hy HY hj3
          gi_wp2
          go_wp2_with fail
          refine bodyPost_ret (results_none rfl _ _ _) rfl ?_
          exact ⟨⟨_, rfl⟩, .inl HE.out⟩
        · have HE := hide (show Jx (eachL xo c bs) W' by rw [HPRE.out, HEL.out]; exact hjx3)
          clear hy HY hjx3
          gi_wp2
          go_wp2_with fail
          refine bodyPost_ret (results_none rfl _ _ _) rfl ?_
          exact ⟨⟨_, rfl⟩, .inr ⟨_, List.prefix_refl _, HE.out⟩⟩
      · have htl := take_len he
        have hel := eachL_ok (xo := yo) (c := d) HNE.out he
        obtain ⟨N, hN⟩ : ∃ N, (take cs).2.1 = N := ⟨_, rfl⟩
        obtain ⟨ins, hins⟩ : ∃ ins, (take cs).1 = ins := ⟨_, rfl⟩
        rw [hN] at hln htl hel ⊢
        rw [hins] at hn hel
        rw [hins] at hsrc
        subst hn
        rw [show N - ins.length = l' by omega] at hel
        rw [hln] at hsrc ⊢
        rw [HL.out] at htl
        obtain ⟨hN0, hNk⟩ := htl
        have r1 := run_cut_l (P := Tryd.prog) 36 5 Tryd.underlying36 sizeB yo k d N (N : Int) rfl hNk
        have U2 := hide hu2; have HEL := hide hel; have HSR := hide hsrc; have HLN := hide hln
        clear hu2 hel hsrc he hN hins hln
        go_upto_region 2 with fail
        have HJ3 := hide (HJ.out _ _ _ HJ2.out (U2.out.mono (by simp)))
        obtain ⟨fn, tmps, assign, body, hy, hR⟩ := HY.out pre (cutAt yo l' N, ins, 0) w2 HJ3.out (by rw [HPRE.out, HEL.out]; simp)
        replace hy : (Instr.yield l0 #[.slice (cutAt yo l' N) ins.length ins.length, .int .i64 0]).run Tryd.prog w2 = .ok (.round l0 fn tmps assign body) w2 := hy
        have HRR := hide hR
        clear hR
        refine (wpIn_wide (n := nn + 1)).1 ?_
        gi_wp2
        refine HRR.out.mono ?_
        rintro e W' (⟨rfl, hj3, hk3⟩ | ⟨rfl, hjx3⟩)
        · have hp2 := U2.out.get HP.out (by simp)
          have hp3 := hk3.get hp2 (by simp)
          have hc3 := blk_cell (i := 0) hp3 rfl
          have hf3 := blk_free (i := 0) hp3
          simp only [List.getElem_toArray, List.getElem_cons_zero] at hc3
          have hs3 := src_keeps (src_upd_nil HS2.out U2.out) hk3 (fun a e h0 => List.mem_cons_of_mem _ (List.mem_cons_of_mem _ (HB.out a e h0).2))
          have hst3 := TabAt.keeps (HST2.out.upd U2.out (by simp)) hk3 (by simp)
          have HP3 := hide hp3; have HJ4 := hide hj3; have HS3 := hide hs3; have HST3 := hide hst3; have HC := hide hc
          clear hy HY hc hf hp2 hp3 hj3 hk3 hs3 hst3
          gi_wp2
          go_wp2_with fail
          have hp4 := blk_set (i := 0) HP3.out (.slice (cutAt yo N d) (k - N) (d - N))
          have hc4 := blk_cell (i := 0) hp4 rfl
          simp only [List.getElem_toArray, List.setIfInBounds_toArray, List.set_cons_zero, List.getElem_cons_zero] at hc4
          have hU : Upd [p] W' (W'.setCell ⟨p, 0, none⟩ (.slice (cutAt yo N d) (k - N) (d - N))) := (Upd.refl _ _).setCell (.inl (by simp)) _
          have hs4 : SrcAt (W'.setCell ⟨p, 0, none⟩ (.slice (cutAt yo N d) (k - N) (d - N))) (cutAt yo N d) (k - N) (d - N) ((cs.drop N).map u8v) 1 := by
            have h5 := src_cut (l := N) (h := k) (q := d) HS3.out hNk (Nat.le_refl _) hkd (Nat.le_refl _)
            rw [List.take_of_length_le (by simp; rw [HL.out]; omega)] at h5
            refine src_upd h5 hU (fun a e h0 => ?_)
            obtain ⟨b, hb1, hb2⟩ := cutAt_block e
            have := (HB.out b hb1 (by omega)).1
            simp
            omega
          refine ⟨⟨cutAt yo N d, k - N, d - N, cs.drop N, pre ++ [(cutAt yo l' N, ins, 0)], by omega, by omega, by rw [HPRE.out, HEL.out]; simp, hp4, hs4, HST3.out.upd hU (by simpa using Ne.symm hp0), HJ.out _ _ _ HJ4.out hU, fun a e h0 => ?_, by omega⟩, ?_⟩
          · obtain ⟨b, hb1, hb2⟩ := cutAt_block e
            have := HB.out b hb1 (by omega)
            rw [← hb2]
            exact this
          · rw [hc4, HC.out]
            simp
            omega
        · clear hy HY
          gi_wp2
          go_wp2_with fail
          refine bodyPost_ret (results_none rfl _ _ _) rfl ?_
          exact ⟨⟨_, rfl⟩, .inr ⟨_, by rw [HPRE.out, HEL.out]; simp, hjx3⟩⟩
    · have hd : decide (0 < k) = false := by simpa using hk0
      have hd2 : decide ((0 : Int) < k) = false := by simp; omega
      have hnil : cs = [] := List.length_eq_zero_iff.1 (by rw [HL.out]; omega)
      have HE := hide (show J (eachL xo c bs) wr by rw [HPRE.out, hnil, eachL_nil, List.append_nil]; exact HJ2.out)
      clear hnil hk0
      go_wp2_with fail
      go_end0
      exact ⟨⟨_, rfl⟩, .inl HE.out⟩
end Go.Proofs.YtekbhfpdakhhkaaDoor.Fr
