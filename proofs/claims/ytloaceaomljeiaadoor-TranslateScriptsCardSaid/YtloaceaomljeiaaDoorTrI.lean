/- slices.IndexFunc, ContainsFunc over commands; cmd.Batch. -/
import Derived.Test.YtloaceaomljeiaaDoorCmP
import Derived.Test.YtloaceaomljeiaaDoorCmK
namespace Go.Proofs.YtloaceaomljeiaaDoor.Tr
open Go.RowKit Go.Lib Go.Proofs.YtloaceaomljeiaaDoor.Crc Go.Proofs.YtloaceaomljeiaaDoor.Cm Go.Proofs.YtloaceaomljeiaaDoor.Var

def idxI : Option Nat → Int
  | none => -1
  | some k => (k : Int)
theorem idx_hit {l : List Cm} {p : Cm → Bool} {k : Nat} {c : Cm} (hno : ∀ x ∈ l.take k, p x = false) (hc : l[k]? = some c) (hp : p c = true) : l.findIdx? p = some k := by
  obtain ⟨hk, e⟩ := List.getElem?_eq_some_iff.1 hc
  rw [List.findIdx?_eq_some_iff_getElem]
  refine ⟨hk, by rw [e]; exact hp, fun j hj => ?_⟩
  have := hno l[j] (List.mem_iff_getElem?.2 ⟨j, by rw [List.getElem?_take, if_pos hj]; exact List.getElem?_eq_getElem (by omega)⟩)
  simp [this]
theorem idx_miss {l : List Cm} {p : Cm → Bool} (h : ∀ x ∈ l, p x = false) : l.findIdx? p = none := by
  rw [List.findIdx?_eq_none_iff]
  exact h
theorem take_snoc {X : Type} {l : List X} {k : Nat} {c : X} (h : l[k]? = some c) : l.take (k + 1) = l.take k ++ [c] := by
  obtain ⟨hk, e⟩ := List.getElem?_eq_some_iff.1 h
  rw [List.take_succ_eq_append_getElem hk, e]
set_option maxRecDepth 100000 in
set_option maxHeartbeats 1000000 in
theorem batch1_any {T : Nat → Prop} {v : Value} {c : Cm} (w : World) (hcnt : CntAt w) (hc : CmAt w T v c) :
    Calls Tryd.prog 32 #[v] w fun e w' => e = .returned (.bool (!decide (Cm.Good c))) ∧ Upd [] w w' := by
  obtain ⟨fit, ks, rfl, hks⟩ := hc
  obtain ⟨ka, kc, rfl, -, -, -⟩ := hks.get
  have KS := hide hks; have FIT := hide fit; have HC := hide hcnt
  clear hks fit hcnt
  unfold cmv
  simp only [strV]
  go_enter Tryd.func32, Tryd.ntmps32
  go_wp2_with fail
  refine (check_any (c := c) _ (HC.out.upd_nil ((Upd.refl _ _).alloc _)) ⟨FIT.out, _, rfl, KS.out.upd_nil ((Upd.refl _ _).alloc _)⟩).mono ?_
  rintro e w1 ⟨hu, rfl⟩
  have HU := hide (((Upd.refl [] w).alloc _).trans hu)
  clear hu
  by_cases hg : Cm.Good c
  · have hk : checkM c = 0 := by unfold checkM; rw [if_pos hg]
    rw [hk]
    have HG := hide hg
    clear hg hk
    go_wp2_with fail
    go_ret
    exact ⟨by simp [HG.out], HU.out⟩
  · have hk : checkM c = 1 := by unfold checkM; rw [if_neg hg]
    rw [hk]
    have HG := hide hg
    clear hg hk
    go_wp2_with fail
    go_ret
    exact ⟨by simp [HG.out], HU.out⟩
set_option maxRecDepth 100000 in
set_option maxHeartbeats 2000000 in
theorem script1_any {T U : Nat → Prop} {v : Value} {a c : Cm} {D : Nat} {xc : Option Addr} {nc : Nat} (w : World) (ha : CmAt w T v a) (hD : w.heap[D]? = some (.cells #[.int .u32 (c.client : Int), .int .u32 (c.seq : Int), .int .u8 (c.kind : Int), .slice xc c.keys.length nc, .string (strOf c.old), .string (strOf c.new), .int .i64 c.n] TCmd (0, 0))) (hf : c.Fits) (hk : Strs w U (.slice xc c.keys.length nc) c.keys) :
    Calls Tryd.prog 28 #[v, .pointer (some ⟨D, 0, none⟩)] w fun e w' => e = .returned (.bool (decide (a = c))) ∧ Upd [] w w' := by
  obtain ⟨fit, ks, rfl, hks⟩ := ha
  obtain ⟨ka, kc, rfl, -, -, -⟩ := hks.get
  have KS := hide hks; have FIT := hide fit; have HK := hide hk; have HF := hide hf
  have hl := blk_lt hD
  have hx : ∀ o i v, (#[Value.int .u32 (c.client : Int), .int .u32 (c.seq : Int), .int .u8 (c.kind : Int), .slice xc c.keys.length nc, .string (strOf c.old), .string (strOf c.new), .int .i64 c.n] : Array Value)[i]? = some v → (w.alloc o).cell? ⟨D, i, none⟩ = some v := fun o i v hv => blk_cell (blk_alloc hD o) hv
  have x0 := fun o => hx o 0 _ rfl
  have x1 := fun o => hx o 1 _ rfl
  have x2 := fun o => hx o 2 _ rfl
  have x3 := fun o => hx o 3 _ rfl
  have x4 := fun o => hx o 4 _ rfl
  have x5 := fun o => hx o 5 _ rfl
  have x6 := fun o => hx o 6 _ rfl
  clear hks fit hk hf hx
  unfold cmv
  simp only [strV]
  go_enter Tryd.func28, Tryd.ntmps28
  go_wp2_with fail
  refine (csame_any (a := a) (b := c) _ ⟨FIT.out, _, rfl, KS.out.upd_nil ((Upd.refl _ _).alloc _)⟩ ⟨HF.out, _, rfl, HK.out.upd_nil ((Upd.refl _ _).alloc _)⟩).mono ?_
  rintro e w1 ⟨rfl, hu⟩
  have HU := hide (((Upd.refl [] w).alloc _).trans hu)
  clear hu
  go_wp2_with fail
  go_ret
  exact ⟨rfl, HU.out⟩
set_option maxRecDepth 100000 in
set_option maxHeartbeats 2000000 in
theorem idxb_any {T : Nat → Prop} {v : Value} {l : List Cm}  (w : World) (h : cmK.row w T v l) (hcnt : CntAt w) :
    Calls Tryd.prog 27 #[v, .func (.func 32) #[] #[]] w fun e w' => e = .returned (.int .i64 (idxI (l.findIdx? fun x => !decide (Cm.Good x)))) ∧ Upd [] w w' := by
  obtain ⟨xo, cp, rfl, h1, h2, hg⟩ := cm_get h
  have HG := hide hg; have HC := hide hcnt
  simp only [maxLen] at h2
  clear h hg hcnt
  go_enter Tryd.func27, Tryd.ntmps27
  go_wp2_with fail
  go_loopw [8] (fun si wr => ∃ k : Nat, k ≤ l.length ∧ si = .int .i64 k ∧ Upd [] w wr ∧ ∀ x ∈ l.take k, (!decide (Cm.Good x)) = false) (fun si _ => l.length - (intOf si).toNat)
  case atStart => exact ⟨0, by omega, rfl, Upd.refl _ _, by simp⟩
  case round =>
    obtain ⟨k, hk, rfl, hu, hall⟩ := hrel
    have HU := hide hu; have HALL := hide hall
    clear hu hall
    by_cases hlt : k < l.length
    · have d5 : decide ((k : Int) < l.length) = true := by simp; omega
      have d5' : decide (k < l.length) = true := by simpa using hlt
      obtain ⟨p, hp⟩ : ∃ p, l[k]? = some p := ⟨_, List.getElem?_eq_getElem hlt⟩
      obtain ⟨b, o, ka, kc, rfl, hb, hTb, fit, hks, hcells⟩ := HG.out k p hp
      obtain ⟨c0, c1, c2, c3, c4, c5, c6⟩ := hcells.upd HU.out hb (by simp)
      have HP := hide hp; have KS := hide (hks.upd_nil HU.out); have FIT := hide fit
      clear hp hks fit hcells
      go_wp2_with fail
      refine (batch1_any (c := p) _ (HC.out.upd_nil HU.out) ⟨FIT.out, _, rfl, KS.out⟩).mono ?_
      rintro e w2 ⟨rfl, hu2⟩
      have U2 := hide (HU.out.trans hu2)
      clear hu2
      obtain ⟨bo, hbo⟩ : ∃ bo, (!decide (Cm.Good p)) = bo := ⟨_, rfl⟩
      rw [hbo]
      have HBO := hide hbo
      clear hbo
      cases bo with
      | true =>
        go_wp2_with fail
        go_ret
        refine ⟨?_, U2.out⟩
        rw [idx_hit HALL.out HP.out HBO.out]
        rfl
      | false =>
        go_wp2_with fail
        go_roundw
        case rel =>
          refine ⟨k + 1, by omega, by go_num, U2.out, fun x hx => ?_⟩
          rw [take_snoc HP.out] at hx
          rcases List.mem_append.1 hx with h5 | h5
          · exact HALL.out x h5
          · simp only [List.mem_singleton] at h5; rw [h5]; exact HBO.out
        case measure => simp [intOf]; omega
    · have d5 : decide ((k : Int) < l.length) = false := by simp; omega
      have d5' : decide (k < l.length) = false := by simpa using hlt
      have hall := HALL.out
      rw [List.take_of_length_le (by omega)] at hall
      have HA := hide hall
      clear hall
      go_wp2_with fail
      go_ret
      refine ⟨?_, HU.out⟩
      rw [idx_miss HA.out]
      rfl
set_option maxRecDepth 100000 in
set_option maxHeartbeats 2000000 in
theorem idxs_any {T : Nat → Prop} {v : Value} {l : List Cm} {U : Nat → Prop} {c : Cm} {D : Nat} {xc : Option Addr} {nc : Nat} (w : World) (h : cmK.row w T v l) (hD : w.heap[D]? = some (.cells #[.int .u32 (c.client : Int), .int .u32 (c.seq : Int), .int .u8 (c.kind : Int), .slice xc c.keys.length nc, .string (strOf c.old), .string (strOf c.new), .int .i64 c.n] TCmd (0, 0))) (hf : c.Fits) (hkc : Strs w U (.slice xc c.keys.length nc) c.keys) :
    Calls Tryd.prog 27 #[v, .func (.func 28) #[] #[.pointer (some ⟨D, 0, none⟩)]] w fun e w' => e = .returned (.int .i64 (idxI (l.findIdx? fun x => decide (x = c)))) ∧ Upd [] w w' := by
  obtain ⟨xo, cp, rfl, h1, h2, hg⟩ := cm_get h
  have HG := hide hg; have HD := hide hD; have HF := hide hf; have HKC := hide hkc
  simp only [maxLen] at h2
  clear h hg hD hf hkc
  go_enter Tryd.func27, Tryd.ntmps27
  go_wp2_with fail
  go_loopw [8] (fun si wr => ∃ k : Nat, k ≤ l.length ∧ si = .int .i64 k ∧ Upd [] w wr ∧ ∀ x ∈ l.take k, (decide (x = c)) = false) (fun si _ => l.length - (intOf si).toNat)
  case atStart => exact ⟨0, by omega, rfl, Upd.refl _ _, by simp⟩
  case round =>
    obtain ⟨k, hk, rfl, hu, hall⟩ := hrel
    have HU := hide hu; have HALL := hide hall
    clear hu hall
    by_cases hlt : k < l.length
    · have d5 : decide ((k : Int) < l.length) = true := by simp; omega
      have d5' : decide (k < l.length) = true := by simpa using hlt
      obtain ⟨p, hp⟩ : ∃ p, l[k]? = some p := ⟨_, List.getElem?_eq_getElem hlt⟩
      obtain ⟨b, o, ka, kc, rfl, hb, hTb, fit, hks, hcells⟩ := HG.out k p hp
      obtain ⟨c0, c1, c2, c3, c4, c5, c6⟩ := hcells.upd HU.out hb (by simp)
      have HP := hide hp; have KS := hide (hks.upd_nil HU.out); have FIT := hide fit
      clear hp hks fit hcells
      go_wp2_with fail
      refine (script1_any (a := p) (c := c) _ ⟨FIT.out, _, rfl, KS.out⟩ (HU.out.get HD.out (by simp)) HF.out (HKC.out.upd_nil HU.out)).mono ?_
      rintro e w2 ⟨rfl, hu2⟩
      have U2 := hide (HU.out.trans hu2)
      clear hu2
      obtain ⟨bo, hbo⟩ : ∃ bo, decide (p = c) = bo := ⟨_, rfl⟩
      rw [hbo]
      have HBO := hide hbo
      clear hbo
      cases bo with
      | true =>
        go_wp2_with fail
        go_ret
        refine ⟨?_, U2.out⟩
        rw [idx_hit HALL.out HP.out HBO.out]
        rfl
      | false =>
        go_wp2_with fail
        go_roundw
        case rel =>
          refine ⟨k + 1, by omega, by go_num, U2.out, fun x hx => ?_⟩
          rw [take_snoc HP.out] at hx
          rcases List.mem_append.1 hx with h5 | h5
          · exact HALL.out x h5
          · simp only [List.mem_singleton] at h5; rw [h5]; exact HBO.out
        case measure => simp [intOf]; omega
    · have d5 : decide ((k : Int) < l.length) = false := by simp; omega
      have d5' : decide (k < l.length) = false := by simpa using hlt
      have hall := HALL.out
      rw [List.take_of_length_le (by omega)] at hall
      have HA := hide hall
      clear hall
      go_wp2_with fail
      go_ret
      refine ⟨?_, HU.out⟩
      rw [idx_miss HA.out]
      rfl
set_option maxRecDepth 100000 in
set_option maxHeartbeats 1000000 in
theorem anyb_any {T : Nat → Prop} {v : Value} {l : List Cm} (w : World) (h : cmK.row w T v l) (hcnt : CntAt w) (hg : ∀ c ∈ l, Cm.Good c) :
    Calls Tryd.prog 31 #[v, .func (.func 32) #[] #[]] w fun e w' => e = .returned (.bool false) ∧ Upd [] w w' := by
  have hi : (l.findIdx? fun x => !decide (Cm.Good x)) = none := idx_miss fun x hx => by simp [hg x hx]
  have H := hide h; have HC := hide hcnt; have HI := hide hi
  obtain ⟨xo, cp, rfl, -, -⟩ := Row.slice h
  clear h hcnt hi hg
  go_enter Tryd.func31, Tryd.ntmps31
  go_wp2_with fail
  refine (idxb_any _ H.out HC.out).mono ?_
  rw [HI.out]
  rintro e w1 ⟨rfl, hu⟩
  have HU := hide hu
  clear hu
  unfold idxI
  go_wp2_with fail
  go_ret
  exact ⟨rfl, HU.out⟩
end Go.Proofs.YtloaceaomljeiaaDoor.Tr
