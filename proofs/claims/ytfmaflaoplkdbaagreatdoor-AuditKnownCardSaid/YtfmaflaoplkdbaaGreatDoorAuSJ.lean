/- AuS, AuJ in one text. -/
import Derived.Test.YtfmaflaoplkdbaaGreatDoorAuG
import Derived.Test.YtfmaflaoplkdbaaGreatDoorAuI
import Derived.Test.YtfmaflaoplkdbaaGreatDoorAuBCDE
set_option linter.unusedSimpArgs false
set_option linter.unusedVariables false
set_option linter.unnecessarySimpa false
namespace Go.Proofs.YtfmaflaoplkdbaaGreatDoor.Au
open Go.RowKit Go.Proofs.YtfmaflaoplkdbaaGreatDoor.Crc Go.Proofs.YtfmaflaoplkdbaaGreatDoor.Cm Go.Proofs.YtfmaflaoplkdbaaGreatDoor.Tr Go.Proofs.YtfmaflaoplkdbaaGreatDoor.Kv
set_option linter.unusedSimpArgs false
set_option linter.unusedVariables false

section
variable {w w' : World} {T : Nat → Prop} {H mb ma mn ms mw mp : Nat} {lv tv hv hv' : Value} {x : Hs} {S : List Nat}
/-- What changes lies away from a history. -/
theorem HAt.away (h : HAt w T H mb ma mn ms mw mp lv tv hv x) (hu : Upd S w w') (hS : ∀ k ∈ S, H < k ∧ hv.ownBlock ≠ some k) : HAt w' T H mb ma mn ms mw mp lv tv hv x := by
  have ho := h.ord
  have ne : ∀ k, k ≤ H → k ∉ S := fun k hk hm => by have := (hS k hm).1; omega
  exact ⟨hu.get h.blk (ne _ (Nat.le_refl _)), ho, h.old, h.bat.upd hu (ne _ (by omega)), h.ans.upd hu (ne _ (by omega)), h.num.upd hu (ne _ (by omega)), h.seen.upd hu (ne _ (by omega)), h.wrong.upd hu (ne _ (by omega)), h.pl.upd hu (ne _ (by omega)),
    Own.upd h.hd hu (fun k hk hm => (hS k hm).2 hk) fun y cs _ hy => cmK.upd hy hu fun k hk hT => by have := h.old k hT; have := (hS k hk).1; omega⟩
theorem HAt.own (h : HAt w T H mb ma mn ms mw mp lv tv hv x) (hu : Upd S w w') (hS : ∀ k ∈ S, mb ≤ k ∧ k ≤ H) : Own w' (H + 1) 25 7 (cmK.holds w' T) hv x.handed :=
  Own.upd h.hd hu (fun k hk hm => by have := (Own.lt h.hd k hk).1; have := (hS k hm).2; omega) fun y cs _ hy => cmK.upd hy hu fun k hk hT => by have := h.old k hT; have := (hS k hk).1; omega
theorem HAt.setBat {f : Nat → Option (List UInt8)} (h : HAt w T H mb ma mn ms mw mp lv tv hv x) (hu : Upd [mb] w w') (hf : batK w' mb f) : HAt w' T H mb ma mn ms mw mp lv tv hv { x with bat := f } := by
  have ho := h.ord
  have ne : ∀ k, k ≠ mb → k ∉ [mb] := fun k hk => by simpa using hk
  exact ⟨hu.get h.blk (ne _ (by omega)), ho, h.old, hf, h.ans.upd hu (ne _ (by omega)), h.num.upd hu (ne _ (by omega)), h.seen.upd hu (ne _ (by omega)), h.wrong.upd hu (ne _ (by omega)), h.pl.upd hu (ne _ (by omega)), h.own hu (fun k hk => by simp at hk; omega)⟩
theorem HAt.setAns {f : Nu → Option An} (h : HAt w T H mb ma mn ms mw mp lv tv hv x) (hu : Upd [ma] w w') (hf : ansK w' ma f) : HAt w' T H mb ma mn ms mw mp lv tv hv { x with ans := f } := by
  have ho := h.ord
  have ne : ∀ k, k ≠ ma → k ∉ [ma] := fun k hk => by simpa using hk
  exact ⟨hu.get h.blk (ne _ (by omega)), ho, h.old, h.bat.upd hu (ne _ (by omega)), hf, h.num.upd hu (ne _ (by omega)), h.seen.upd hu (ne _ (by omega)), h.wrong.upd hu (ne _ (by omega)), h.pl.upd hu (ne _ (by omega)), h.own hu (fun k hk => by simp at hk; omega)⟩
theorem HAt.setSeen {f : Nat → Option Bool} (h : HAt w T H mb ma mn ms mw mp lv tv hv x) (hu : Upd [ms] w w') (hf : slbK w' ms f) : HAt w' T H mb ma mn ms mw mp lv tv hv { x with seen := f } := by
  have ho := h.ord
  have ne : ∀ k, k ≠ ms → k ∉ [ms] := fun k hk => by simpa using hk
  exact ⟨hu.get h.blk (ne _ (by omega)), ho, h.old, h.bat.upd hu (ne _ (by omega)), h.ans.upd hu (ne _ (by omega)), h.num.upd hu (ne _ (by omega)), hf, h.wrong.upd hu (ne _ (by omega)), h.pl.upd hu (ne _ (by omega)), h.own hu (fun k hk => by simp at hk; omega)⟩
theorem HAt.setLate {f : Nu → Option Bool} {z : Int} (h : HAt w T H mb ma mn ms mw mp lv tv hv x) (hu : Upd [mn, H] w w') (hf : numK w' mn f) (hb : w'.heap[H]? = some (.cells #[lv, tv, .map (some mb), .map (some ma), hv, .map (some mn), .map (some ms), .map (some mw), .map (some mp), .int .i64 z] THi (0, 0))) :
    HAt w' T H mb ma mn ms mw mp lv tv hv { x with num := f, last := z } := by
  have ho := h.ord
  have ne : ∀ k, k ≠ mn → k ≠ H → k ∉ [mn, H] := fun k h1 h2 => by simp; exact ⟨h1, h2⟩
  exact ⟨hb, ho, h.old, h.bat.upd hu (ne _ (by omega) (by omega)), h.ans.upd hu (ne _ (by omega) (by omega)), hf, h.seen.upd hu (ne _ (by omega) (by omega)), h.wrong.upd hu (ne _ (by omega) (by omega)), h.pl.upd hu (ne _ (by omega) (by omega)), h.own hu (fun k hk => by simp at hk; omega)⟩
end
/-- What a history has, where so many entries have been asked of each kind. -/
def stA (cs : List Cm) (wr : Nat → Option Bool) (l : List En) (told : List To) (a b c e f : Nat) : Hs := ⟨findD (dones told a), findA (anss told b), handedM l told c, numMap (handedM l told f), seenM (dones told e), wr, plM cs, lastM cs told f⟩
def stK (cs : List Cm) (wr : Nat → Option Bool) (l : List En) (told : List To) (i : Nat) : Nat → Hs
  | 0 => stA cs wr l told i i i i i
  | 1 => stA cs wr l told (i + 1) i i i i
  | 2 => stA cs wr l told (i + 1) (i + 1) i i i
  | 3 => stA cs wr l told (i + 1) (i + 1) (i + 1) i i
  | 4 => stA cs wr l told (i + 1) (i + 1) (i + 1) i i
  | 5 => stA cs wr l told (i + 1) (i + 1) (i + 1) (i + 1) i
  | _ => stA cs wr l told (i + 1) (i + 1) (i + 1) (i + 1) (i + 1)
section
variable {cs : List Cm} {wr : Nat → Option Bool} {l : List En} {told : List To} {i a b c e f : Nat} {t : To}
theorem handed_len : ∀ n, (handedM l told n).length ≤ n := fun n => by
  unfold handedM
  have := List.length_filterMap_le (fun i => (told[i]?).bind fun t => if handsM l t i then some (entM l i).cmd else none) (List.range n)
  simpa using this
theorem num_next (h : told[i]? = some t) : numNext l t i (numMap (handedM l told i)) = numMap (handedM l told (i + 1)) := by
  funext j
  unfold numNext numMap
  rw [handed_next h, numbered_append]
  cases hh : handsM l t i with
  | false => simp [numbered]
  | true =>
    by_cases e : j = cmNu (entM l i).cmd
    · simp [numbered, e]
    · have : ¬ cmNu (entM l i).cmd = j := fun h => e h.symm
      simp [numbered, e, this]
theorem last_next (h : told[i]? = some t) : lastP (plM cs) (lastM cs told i) t.ans = lastM cs told (i + 1) := by
  unfold lastM
  rw [anss_next h, lastOf_append, lastOf_eq cs _ t.ans]
  rfl
theorem late_st : lateM l t i (stA cs wr l told a b c e i) = b6 cs l told i t := by
  unfold lateM b6 stA
  simp only [plM, numMap]
  cases handsM l t i with
  | false => rfl
  | true =>
    cases placeN cs (cmNu (entM l i).cmd) with
    | none => rfl
    | some p => cases numbered (handedM l told i) (cmNu (entM l i).cmd) <;> rfl
end
theorem kinds_append : ∀ (a b : List Bool) (n : Nat), kindsOf n (a ++ b) = kindsOf n a ++ kindsOf (n + a.length) b
  | [], b, n => by simp [kindsOf]
  | x :: a, b, n => by
    have h := kinds_append a b (n + 1)
    have e : n + (x :: a).length = n + 1 + a.length := by simp; omega
    rw [e]
    cases x <;> simp [kindsOf, h]
/-- What was found of the first kinds. -/
def foundK (bits : List Bool) (i k : Nat) : List (Nat × Nat) := (kindsOf 1 (bits.take k)).map fun q => (i, q)
theorem found_next {bits : List Bool} {i k : Nat} {b : Bool} (h : bits[k]? = some b) : foundK bits i (k + 1) = foundK bits i k ++ if b then [(i, k + 1)] else [] := by
  obtain ⟨hk, e⟩ := List.getElem?_eq_some_iff.1 h
  unfold foundK
  rw [List.take_succ_eq_append_getElem hk, e, kinds_append, List.map_append, List.length_take, Nat.min_eq_left (by omega), Nat.add_comm 1 k]
  congr 1
  cases b <;> rfl
theorem audit_next {log : List Sl} {l : List En} {told : List To} {i : Nat} {t : To} (h : told[i]? = some t) : auditM log l told (i + 1) = auditM log l told i ++ foundK (bitsM (log.flatMap (·.cmds)) (wrongM ap0 log) l told i t) i 6 := by
  unfold auditM
  rw [List.range_succ, List.flatMap_append]
  congr 1
  simp only [List.flatMap_cons, List.flatMap_nil, List.append_nil, h]
  unfold foundK
  rw [List.take_of_length_le (by simp [bitsM])]
/-- Findings in memory. -/
def fnK : Kind (Nat × Nat) where
  z := 2
  hz := by decide
  holds _ _ f cs := cs = [.int .i64 (f.1 : Int), .int .u8 (f.2 : Int)]
  len := by rintro w T c cs rfl; rfl
  one := by rintro w T c cs rfl; simp [Value.oneCell']
  upd := by rintro w w' T c cs S h hu hS; exact h
  mono := by rintro w T U c cs h hT; exact h
end Go.Proofs.YtfmaflaoplkdbaaGreatDoor.Au
namespace Go.Proofs.YtfmaflaoplkdbaaGreatDoor.Au
open Go.RowKit Go.Proofs.YtfmaflaoplkdbaaGreatDoor.Crc Go.Proofs.YtfmaflaoplkdbaaGreatDoor.Cm Go.Proofs.YtfmaflaoplkdbaaGreatDoor.Tr Go.Proofs.YtfmaflaoplkdbaaGreatDoor.Kv
set_option linter.unusedSimpArgs false
set_option linter.unusedVariables false

abbrev TFn : TypeId := 51
theorem infoFn : (Tryz.prog.info? TFn).map (fun i => (i.zero, i.size, i.bytes)) = some (some (.agg #[.int .i64 0, .int .u8 0]), 2, 16) := by kernel_rfl
/-- What is there between two calls: the history, the findings, the row of functions. -/
structure Ck (w0 w : World) (T : Nat → Prop) (H mb ma mn ms mw mp : Nat) (lv tv hv sv : Value) (x : Hs) (F : List (Nat × Nat)) : Prop where
  u : Upd [] w0 w
  h : HAt w T H mb ma mn ms mw mp lv tv hv x
  o : Own w (H + 1) TFn 2 (fun (f : Nat × Nat) cs => cs = [.int .i64 (f.1 : Int), .int .u8 (f.2 : Int)]) sv F
  ne : ∀ g, sv.ownBlock = some g → hv.ownBlock ≠ some g
section
variable {w0 w w' : World} {T : Nat → Prop} {H mb ma mn ms mw mp : Nat} {lv tv hv hv' sv : Value} {x x' : Hs} {F : List (Nat × Nat)} {S : List Nat}
theorem Ck.nil (h : Ck w0 w T H mb ma mn ms mw mp lv tv hv sv x F) (hu : Upd [] w w') : Ck w0 w' T H mb ma mn ms mw mp lv tv hv sv x F :=
  ⟨h.u.trans hu, h.h.upd_nil hu, Own.upd h.o hu (by simp) (fun _ _ _ h => h), h.ne⟩
/-- The history goes on. -/
theorem Ck.turn (h : Ck w0 w T H mb ma mn ms mw mp lv tv hv sv x F) (hu : Upd S w w') (hS : ∀ k ∈ S, w0.heap.size ≤ k ∧ (k ≤ H ∨ hv.ownBlock = some k)) (hh : HAt w' T H mb ma mn ms mw mp lv tv hv' x') (hg : ∀ g, hv'.ownBlock = some g → hv.ownBlock = some g ∨ w.heap.size ≤ g) : Ck w0 w' T H mb ma mn ms mw mp lv tv hv' sv x' F :=
  ⟨h.u.trans_new hu (fun k hk => .inr (hS k hk).1), hh, Own.upd h.o hu (fun k hk hm => by
      have h1 := (Own.lt h.o k hk).1
      rcases (hS k hm).2 with h2 | h2
      · omega
      · exact h.ne k hk h2) (fun _ _ _ h => h), fun g hs hv => by
    rcases hg g hv with h1 | h1
    · exact h.ne g hs h1
    · have := (Own.lt h.o g hs).2; omega⟩
end
theorem kinds_len : ∀ (b : List Bool) (n : Nat), (kindsOf n b).length ≤ b.length
  | [], n => by simp [kindsOf]
  | x :: b, n => by
    have := kinds_len b (n + 1)
    cases x <;> simp [kindsOf] <;> omega
theorem found_le {bits : List Bool} {i k : Nat} : (foundK bits i k).length ≤ k := by
  unfold foundK
  have := kinds_len (bits.take k) 1
  rw [List.length_map]
  rw [List.length_take] at this
  omega
theorem audit_len {log : List Sl} {l : List En} {told : List To} : ∀ n, (auditM log l told n).length ≤ 6 * n
  | 0 => by simp [auditM]
  | n + 1 => by
    have ih := audit_len (log := log) (l := l) (told := told) n
    cases h : told[n]? with
    | some t =>
      rw [audit_next h, List.length_append]
      have := found_le (bits := bitsM (log.flatMap (·.cmds)) (wrongM ap0 log) l told n t) (i := n) (k := 6)
      omega
    | none =>
      unfold auditM at ih ⊢
      rw [List.range_succ, List.flatMap_append, List.length_append]
      simp only [List.flatMap_cons, List.flatMap_nil, List.append_nil, h, List.length_nil]
      omega
theorem found_len {log : List Sl} {l : List En} {told : List To} {bits : List Bool} {n k : Nat} (hn : n ≤ 40) (hk : k ≤ 6) : (auditM log l told n ++ foundK bits n k).length ≤ 100000 := by
  have := audit_len (log := log) (l := l) (told := told) n
  have := found_le (bits := bits) (i := n) (k := k)
  rw [List.length_append]
  omega
theorem fn_src {w : World} {b : Nat} {x y : Value} {t : TypeId} (h : w.heap[b]? = some (.cells #[x, y] t (0, 0))) (hx : x.oneCell' = true := by rfl) (hy : y.oneCell' = true := by rfl) : SrcAt w (some ⟨b, 0, none⟩) 1 1 [x, y] 2 := by
  refine ⟨rfl, ?_, by simp, fun a' e j u hj => ?_⟩
  · intro u hu
    simp only [List.mem_cons, List.not_mem_nil, or_false] at hu
    rcases hu with rfl | rfl
    · exact hx
    · exact hy
  · cases e
    have h5 := blk_cell (i := j) h (by simpa using hj)
    by_cases h0 : j = 0
    · subst h0; simpa [Addr.add] using h5
    · simpa [Addr.add, h0] using h5
set_option maxRecDepth 100000 in
set_option maxHeartbeats 8000000 in
theorem check_any' {T : Nat → Prop} {lv tv : Value} {l : List En} {told : List To} (w : World) (he : EnvAt w) (hl : enK.row w T lv l) (ht : toK.row w T tv told) (hT : ∀ k, T k → k < w.heap.size)
    (hb : ∀ t ∈ told, t.done.length ≤ 20 ∧ t.ans.length ≤ 60 ∧ ∀ d ∈ t.done, d.2.length ≤ 2000) (h40 : told.length ≤ 40) :
    Calls Tryz.prog 11 #[lv, tv] w fun e w' => (∃ (out : List Sl) (sv : Value), e = .returned sv ∧ LogIs (allM (told.map To.td)) out ∧ fnK.row w' (since w.heap.size w') sv (auditM out l told told.length)) ∧ Upd [] w w' := by
  obtain ⟨xl, cpl, rfl, -, -⟩ := Row.slice hl
  obtain ⟨xo, cp, rfl, hcp, hcm⟩ := Row.slice ht
  have HL := hide hl; have HT := hide ht; have HE := hide he; have HB := hide hb; have HTT := hide hT
  clear hl ht hb hT
  have hsz := he.size.1
  clear he
  obtain ⟨i3, hi3, kz0, kz1, kz2⟩ := info_parts infoFn
  simp only [maxLen] at hcm
  obtain ⟨z, hz⟩ : ∃ z, w.heap.size = z := ⟨_, rfl⟩
  rw [hz] at hsz
  have HZ := hide hz
  go_enter Tryz.func11, Tryz.ntmps11
  go_wp2_with fail
  refine (begun_any w HE.out HL.out HT.out HTT.out HB.out h40).mono ?_
  rintro e w1 ⟨⟨H, mb, ma, mn, ms, mw, mp, out, rfl, hlog, hmb, hat⟩, hu1⟩
  rw [hz] at hmb
  have hord := hat.ord
  have hHl := blk_lt hat.blk
  obtain ⟨cs, hcs⟩ : ∃ cs, out.flatMap (·.cmds) = cs := ⟨_, rfl⟩
  obtain ⟨wm, hwm⟩ : ∃ wm, wrongM ap0 out = wm := ⟨_, rfl⟩
  rw [hcs, hwm] at hat
  have hck : Ck w w1 T H mb ma mn ms mw mp (.slice xl l.length cpl) (.slice xo told.length cp) (.slice none 0 0) (.slice none 0 0) (stA cs wm l told 0 0 0 0 0) (auditM out l told 0) := ⟨hu1, hat, Own.nil _ _ _ _ _, by simp [Value.ownBlock]⟩
  have CK := hide hck; have LOG := hide hlog; have HCS := hide hcs; have HWM := hide hwm
  clear hck hlog hcs hwm hat hu1
  go_wp2_with fail
  go_loopw [6, 15] (fun so si wr => ∃ (i : Nat) (hv : Value), i ≤ told.length ∧ si = .int .i64 i ∧ Ck w wr T H mb ma mn ms mw mp (.slice xl l.length cpl) (.slice xo told.length cp) hv so (stA cs wm l told i i i i i) (auditM out l told i)) (fun _ si _ => told.length - (RowKit.intOf si).toNat)
  case atStart => exact ⟨0, _, by omega, rfl, CK.out⟩
  case round =>
    obtain ⟨i, hv, hi, rfl, hck⟩ := hrel
    have CI := hide hck
    clear hck CK
    by_cases hil : i < told.length
    · have d5 : decide ((i : Int) < told.length) = true := by simp; omega
      have d5' : decide (i < told.length) = true := by simpa using hil
      obtain ⟨t, hti⟩ : ∃ t, told[i]? = some t := ⟨_, List.getElem?_eq_getElem hil⟩
      have TI := hide hti; have TB := hide (HB.out t (List.mem_of_getElem? hti))
      clear hti
      go_upto_region 7 with fail
      have hB := blk_new wr (.cells #[.func (.func 53) #[] #[], .func (.func 54) #[] #[], .func (.func 55) #[] #[], .func (.func 56) #[] #[], .func (.func 57) #[] #[], .func (.func 58) #[] #[]] 112)
      have hal := (Upd.refl [] wr).alloc (.cells #[.func (.func 53) #[] #[], .func (.func 54) #[] #[], .func (.func 55) #[] #[], .func (.func 56) #[] #[], .func (.func 57) #[] #[], .func (.func 58) #[] #[]] 112)
      change Code.wp _ _ _ _ (wr.alloc (.cells #[.func (.func 53) #[] #[], .func (.func 54) #[] #[], .func (.func 55) #[] #[], .func (.func 56) #[] #[], .func (.func 57) #[] #[], .func (.func 58) #[] #[]] 112))
      generalize wr.alloc (.cells #[.func (.func 53) #[] #[], .func (.func 54) #[] #[], .func (.func 55) #[] #[], .func (.func 56) #[] #[], .func (.func 57) #[] #[], .func (.func 58) #[] #[]] 112) = w2 at *
      obtain ⟨Bf, hBf⟩ : ∃ Bf, wr.heap.size = Bf := ⟨_, rfl⟩
      have hHB := blk_lt CI.out.h.blk
      have hvl := Own.lt CI.out.h.hd
      have svl := Own.lt CI.out.o
      rw [hBf] at hB hHB hvl svl ⊢
      have C2 := hide (CI.out.nil hal); have A2 := hide hB
      have N1 := hide (show u6.ownBlock ≠ some Bf from fun h => by have := (svl _ h).2; omega)
      have N2 := hide (show hv.ownBlock ≠ some Bf from fun h => by have := (hvl _ h).2; omega)
      clear hB hal hBf hvl svl CI
      go_loopw [6, 20] (fun so sk wq => ∃ (k : Nat) (hv : Value), k ≤ 6 ∧ sk = .int .i64 k ∧ Ck w wq T H mb ma mn ms mw mp (.slice xl l.length cpl) (.slice xo told.length cp) hv so (stK cs wm l told i k) (auditM out l told i ++ foundK (bitsM cs wm l told i t) i k) ∧
        wq.heap[Bf]? = some (.cells #[.func (.func 53) #[] #[], .func (.func 54) #[] #[], .func (.func 55) #[] #[], .func (.func 56) #[] #[], .func (.func 57) #[] #[], .func (.func 58) #[] #[]] 112 (0, 0)) ∧ so.ownBlock ≠ some Bf ∧ hv.ownBlock ≠ some Bf) (fun _ sk _ => 6 - (RowKit.intOf sk).toNat)
      case atStart => exact ⟨0, hv, by omega, rfl, by rw [show foundK (bitsM cs wm l told i t) i 0 = [] from rfl, List.append_nil]; exact C2.out, A2.out, N1.out, N2.out⟩
      case round =>
        obtain ⟨k, hv, hk, rfl, hcq, haf, hnf, hnv⟩ := hrel
        have CQ := hide hcq; have AF := hide haf; have NF := hide hnf; have NV := hide hnv
        have hBq := blk_lt haf
        clear hcq haf hnf hnv C2 A2 N1 N2
        generalize wr = wq at *
        obtain rfl | rfl | rfl | rfl | rfl | rfl | rfl : k = 0 ∨ k = 1 ∨ k = 2 ∨ k = 3 ∨ k = 4 ∨ k = 5 ∨ k = 6 := by omega
        · have c0 : wq.cell? ⟨Bf, 0, none⟩ = some (.func (.func 53) #[] #[]) := blk_cell AF.out rfl
          obtain ⟨bo, hbo⟩ : ∃ bo, b1 told i t = bo := ⟨_, rfl⟩
          have HBIT : Hid ((bitsM cs wm l told i t)[0]? = some bo) := hide (by rw [← hbo]; rfl)
          go_wp2_with fail
          have hnx := dones_next TI.out
          refine (twoBatches_any (i := i) (L := dones told i) wq (CQ.out.h) (toK.row_upd_nil HT.out CQ.out.u) TI.out rfl).mono ?_
          rw [← hnx]
          rintro e wn ⟨rfl, hf, hu⟩
          have CN := hide (CQ.out.turn (x' := stK cs wm l told i 1) hu (fun k hk => by simp at hk; omega) (CQ.out.h.setBat hu (by exact hf)) (fun g hg => .inl hg))
          have AN := hide (hu.get AF.out (by simp; omega))
          have NVN := NV
          rw [show (t.done.any fun d => !decide (findD (dones told (i + 1)) d.1 = some d.2)) = bo from by rw [hnx]; exact hbo]
          have FL := hide (found_len (told := told) (log := out) (l := l) (bits := bitsM cs wm l told i t) (n := i) (k := 0) (by omega) (by omega))
          clear hu hbo c0 AF CQ NV hf
          cases bo with
          | false =>
            have hfn := found_next (i := i) HBIT.out
            rw [if_neg (by simp), List.append_nil] at hfn
            have HFN := hide hfn
            clear hfn
            go_wp2_with fail
            go_roundw
            case rel => exact ⟨1, _, by omega, by go_num, by rw [HFN.out]; exact CN.out, AN.out, NF.out, NVN.out⟩
            case measure => simp [RowKit.intOf]
          | true =>
            have hfn := found_next (i := i) HBIT.out
            rw [if_pos rfl] at hfn
            have HFN := hide hfn
            have hfl := FL.out
            obtain ⟨xf, cf, rfl, hcf, hcfm⟩ := Row.slice (Own.row CN.out.o)
            obtain ⟨FF, hFF⟩ : ∃ FF, auditM out l told i ++ foundK (bitsM cs wm l told i t) i 0 = FF := ⟨_, rfl⟩
            rw [hFF] at hcf hfl ⊢
            have hone := CN.out.o
            rw [hFF] at hone
            obtain ⟨css, q1, q2, q3⟩ := hone
            have Q1 := hide q1; have Q2 := hide q2; have Q3 := hide q3
            clear q1 q2 q3 hfn
            go_wp2_with (at_builtin; go_must (refine wpList_append_src _ rfl _ _ 44 rfl (H + 1) TFn i3 (.agg #[.int .i64 0, .int .u8 0]) 2 16 Tryz.underlying44 hi3 kz0 kz1 kz2 rfl (by decide) (.slice xf FF.length cf) FF.length css.flatten rfl (owns_upd Q3.out ((Upd.refl [] wn).alloc _) (by simp)) (some ⟨wn.heap.size, 0, none⟩) 1 1 [.int .i64 (i : Int), .int .u8 1] rfl (fn_src (blk_new _ _)) (by unfold maxLen; omega) (by omega) (by simp; have := blk_lt CN.out.h.blk; omega) ?_))
            intro ao6 cap6 w6 hown6 hU6 hn6
            have hgr := grown_upd hU6
            have hw6 : Own w6 (H + 1) TFn 2 (fun (f : Nat × Nat) cs => cs = [.int .i64 (f.1 : Int), .int .u8 (f.2 : Int)]) (.slice ao6 (FF.length + 1) cap6) (FF ++ [(i, 1)]) :=
              Own.more Q1.out Q2.out rfl rfl (by intro u hu; simp only [List.mem_cons, List.not_mem_nil, or_false] at hu; rcases hu with rfl | rfl <;> rfl) rfl hown6
            have hfn : FF ++ [(i, 1)] = auditM out l told i ++ foundK (bitsM cs wm l told i t) i 1 := by rw [HFN.out, ← List.append_assoc, hFF]
            rw [hfn] at hw6
            have hol := Own.lt CN.out.o
            have hne := CN.out.ne
            rw [hFF] at hol hne
            have hHv := Own.lt CN.out.h.hd
            have nf := NF.out
            rw [hFF] at nf
            have hn7 : ∀ g, (Value.slice ao6 (FF.length + 1) cap6).ownBlock = some g → (Value.slice xf FF.length cf).ownBlock = some g ∨ wn.heap.size ≤ g := fun g hg => (hn6 g hg).imp id fun h => by omega
            have hBn := blk_lt AN.out
            have hck6 : Ck w w6 T H mb ma mn ms mw mp (.slice xl l.length cpl) (.slice xo told.length cp) _ (.slice ao6 (FF.length + 1) cap6) (stK cs wm l told i 1) (auditM out l told i ++ foundK (bitsM cs wm l told i t) i 1) :=
              ⟨CN.out.u.trans_new hgr (fun k hk => .inr (by have := (hol k (by simpa using hk)).1; omega)), CN.out.h.away hgr (fun k hk => ⟨by have := (hol k (by simpa using hk)).1; omega, hne k (by simpa using hk)⟩), hw6, fun g hg hv => by
                rcases hn7 g hg with h1 | h1
                · exact hne g h1 hv
                · have := (hHv g hv).2; omega⟩
            have CK6 := hide hck6
            have AN6 := hide (hgr.get AN.out (fun hm => nf (by simpa using hm)))
            have NF6 := hide (show (Value.slice ao6 (FF.length + 1) cap6).ownBlock ≠ some Bf from fun h => by
              rcases hn7 _ h with h1 | h1
              · exact nf h1
              · omega)
            clear hown6 hU6 hn6 hgr hw6 hol hne hHv nf hn7 hck6 Q1 Q2 Q3 CN AN NF hfn
            go_wp2_with fail
            go_roundw
            case rel => exact ⟨1, _, by omega, by go_num, CK6.out, AN6.out, NF6.out, NVN.out⟩
            case measure => simp [RowKit.intOf]
        · have c0 : wq.cell? ⟨Bf, 1, none⟩ = some (.func (.func 54) #[] #[]) := blk_cell AF.out rfl
          obtain ⟨bo, hbo⟩ : ∃ bo, b2 told i t = bo := ⟨_, rfl⟩
          have HBIT : Hid ((bitsM cs wm l told i t)[1]? = some bo) := hide (by rw [← hbo]; rfl)
          go_wp2_with fail
          have hnx := anss_next TI.out
          refine (twoAnswers_any (i := i) (L := anss told i) wq (CQ.out.h) (toK.row_upd_nil HT.out CQ.out.u) TI.out rfl).mono ?_
          rw [← hnx]
          rintro e wn ⟨rfl, hf, hu⟩
          have CN := hide (CQ.out.turn (x' := stK cs wm l told i 2) hu (fun k hk => by simp at hk; omega) (CQ.out.h.setAns hu (by exact hf)) (fun g hg => .inl hg))
          have AN := hide (hu.get AF.out (by simp; omega))
          have NVN := NV
          rw [show (t.ans.any fun a => !decide (a.code = 3) && !decide (findA (anss told (i + 1)) (anNu a) = some a)) = bo from by rw [hnx]; exact hbo]
          have FL := hide (found_len (told := told) (log := out) (l := l) (bits := bitsM cs wm l told i t) (n := i) (k := 1) (by omega) (by omega))
          clear hu hbo c0 AF CQ NV hf
          cases bo with
          | false =>
            have hfn := found_next (i := i) HBIT.out
            rw [if_neg (by simp), List.append_nil] at hfn
            have HFN := hide hfn
            clear hfn
            go_wp2_with fail
            go_roundw
            case rel => exact ⟨2, _, by omega, by go_num, by rw [HFN.out]; exact CN.out, AN.out, NF.out, NVN.out⟩
            case measure => simp [RowKit.intOf]
          | true =>
            have hfn := found_next (i := i) HBIT.out
            rw [if_pos rfl] at hfn
            have HFN := hide hfn
            have hfl := FL.out
            obtain ⟨xf, cf, rfl, hcf, hcfm⟩ := Row.slice (Own.row CN.out.o)
            obtain ⟨FF, hFF⟩ : ∃ FF, auditM out l told i ++ foundK (bitsM cs wm l told i t) i 1 = FF := ⟨_, rfl⟩
            rw [hFF] at hcf hfl ⊢
            have hone := CN.out.o
            rw [hFF] at hone
            obtain ⟨css, q1, q2, q3⟩ := hone
            have Q1 := hide q1; have Q2 := hide q2; have Q3 := hide q3
            clear q1 q2 q3 hfn
            go_wp2_with (at_builtin; go_must (refine wpList_append_src _ rfl _ _ 44 rfl (H + 1) TFn i3 (.agg #[.int .i64 0, .int .u8 0]) 2 16 Tryz.underlying44 hi3 kz0 kz1 kz2 rfl (by decide) (.slice xf FF.length cf) FF.length css.flatten rfl (owns_upd Q3.out ((Upd.refl [] wn).alloc _) (by simp)) (some ⟨wn.heap.size, 0, none⟩) 1 1 [.int .i64 (i : Int), .int .u8 2] rfl (fn_src (blk_new _ _)) (by unfold maxLen; omega) (by omega) (by simp; have := blk_lt CN.out.h.blk; omega) ?_))
            intro ao6 cap6 w6 hown6 hU6 hn6
            have hgr := grown_upd hU6
            have hw6 : Own w6 (H + 1) TFn 2 (fun (f : Nat × Nat) cs => cs = [.int .i64 (f.1 : Int), .int .u8 (f.2 : Int)]) (.slice ao6 (FF.length + 1) cap6) (FF ++ [(i, 2)]) :=
              Own.more Q1.out Q2.out rfl rfl (by intro u hu; simp only [List.mem_cons, List.not_mem_nil, or_false] at hu; rcases hu with rfl | rfl <;> rfl) rfl hown6
            have hfn : FF ++ [(i, 2)] = auditM out l told i ++ foundK (bitsM cs wm l told i t) i 2 := by rw [HFN.out, ← List.append_assoc, hFF]
            rw [hfn] at hw6
            have hol := Own.lt CN.out.o
            have hne := CN.out.ne
            rw [hFF] at hol hne
            have hHv := Own.lt CN.out.h.hd
            have nf := NF.out
            rw [hFF] at nf
            have hn7 : ∀ g, (Value.slice ao6 (FF.length + 1) cap6).ownBlock = some g → (Value.slice xf FF.length cf).ownBlock = some g ∨ wn.heap.size ≤ g := fun g hg => (hn6 g hg).imp id fun h => by omega
            have hBn := blk_lt AN.out
            have hck6 : Ck w w6 T H mb ma mn ms mw mp (.slice xl l.length cpl) (.slice xo told.length cp) _ (.slice ao6 (FF.length + 1) cap6) (stK cs wm l told i 2) (auditM out l told i ++ foundK (bitsM cs wm l told i t) i 2) :=
              ⟨CN.out.u.trans_new hgr (fun k hk => .inr (by have := (hol k (by simpa using hk)).1; omega)), CN.out.h.away hgr (fun k hk => ⟨by have := (hol k (by simpa using hk)).1; omega, hne k (by simpa using hk)⟩), hw6, fun g hg hv => by
                rcases hn7 g hg with h1 | h1
                · exact hne g h1 hv
                · have := (hHv g hv).2; omega⟩
            have CK6 := hide hck6
            have AN6 := hide (hgr.get AN.out (fun hm => nf (by simpa using hm)))
            have NF6 := hide (show (Value.slice ao6 (FF.length + 1) cap6).ownBlock ≠ some Bf from fun h => by
              rcases hn7 _ h with h1 | h1
              · exact nf h1
              · omega)
            clear hown6 hU6 hn6 hgr hw6 hol hne hHv nf hn7 hck6 Q1 Q2 Q3 CN AN NF hfn
            go_wp2_with fail
            go_roundw
            case rel => exact ⟨2, _, by omega, by go_num, CK6.out, AN6.out, NF6.out, NVN.out⟩
            case measure => simp [RowKit.intOf]
        · have c0 : wq.cell? ⟨Bf, 2, none⟩ = some (.func (.func 55) #[] #[]) := blk_cell AF.out rfl
          obtain ⟨bo, hbo⟩ : ∃ bo, b3 l told i t = bo := ⟨_, rfl⟩
          have HBIT : Hid ((bitsM cs wm l told i t)[2]? = some bo) := hide (by rw [← hbo]; rfl)
          go_wp2_with fail
          refine (stranger_any (i := i) (L := handedM l told (i + 1)) wq (CQ.out.h) (HE.out.upd_nil CQ.out.u).cnt (by omega) (enK.row_upd_nil HL.out CQ.out.u) (toK.row_upd_nil HT.out CQ.out.u) TI.out (handed_next TI.out).symm (by have := handed_len (l := l) (told := told) i; show (handedM l told i).length ≤ _; omega) (fun d hd => by have := TB.out.2.2 d hd; omega)).mono ?_
          rintro e wn ⟨rfl, hz2, hh, hu, hg⟩
          have CN := hide (CQ.out.turn (x' := stK cs wm l told i 3) hu (fun k hk => by rcases List.mem_cons.1 hk with rfl | hk; exact ⟨by omega, .inl (Nat.le_refl _)⟩; exact ⟨by have := (Own.lt CQ.out.h.hd k (by simpa using hk)).1; omega, .inr (by simpa using hk)⟩) hh hg)
          have AN := hide (hu.get AF.out (fun hm => by rcases List.mem_cons.1 hm with h | h; omega; exact NV.out (by simpa using h)))
          have NVN := hide (show hz2.ownBlock ≠ some Bf from fun h => by rcases hg _ h with h1 | h1; exact NV.out h1; omega)
          rw [show (t.done.any fun d => (parseM d.2).1.any fun c => !decide (c ∈ handedM l told (i + 1))) = bo from hbo]
          have FL := hide (found_len (told := told) (log := out) (l := l) (bits := bitsM cs wm l told i t) (n := i) (k := 2) (by omega) (by omega))
          clear hu hbo c0 AF CQ NV hh hg
          cases bo with
          | false =>
            have hfn := found_next (i := i) HBIT.out
            rw [if_neg (by simp), List.append_nil] at hfn
            have HFN := hide hfn
            clear hfn
            go_wp2_with fail
            go_roundw
            case rel => exact ⟨3, _, by omega, by go_num, by rw [HFN.out]; exact CN.out, AN.out, NF.out, NVN.out⟩
            case measure => simp [RowKit.intOf]
          | true =>
            have hfn := found_next (i := i) HBIT.out
            rw [if_pos rfl] at hfn
            have HFN := hide hfn
            have hfl := FL.out
            obtain ⟨xf, cf, rfl, hcf, hcfm⟩ := Row.slice (Own.row CN.out.o)
            obtain ⟨FF, hFF⟩ : ∃ FF, auditM out l told i ++ foundK (bitsM cs wm l told i t) i 2 = FF := ⟨_, rfl⟩
            rw [hFF] at hcf hfl ⊢
            have hone := CN.out.o
            rw [hFF] at hone
            obtain ⟨css, q1, q2, q3⟩ := hone
            have Q1 := hide q1; have Q2 := hide q2; have Q3 := hide q3
            clear q1 q2 q3 hfn
            go_wp2_with (at_builtin; go_must (refine wpList_append_src _ rfl _ _ 44 rfl (H + 1) TFn i3 (.agg #[.int .i64 0, .int .u8 0]) 2 16 Tryz.underlying44 hi3 kz0 kz1 kz2 rfl (by decide) (.slice xf FF.length cf) FF.length css.flatten rfl (owns_upd Q3.out ((Upd.refl [] wn).alloc _) (by simp)) (some ⟨wn.heap.size, 0, none⟩) 1 1 [.int .i64 (i : Int), .int .u8 3] rfl (fn_src (blk_new _ _)) (by unfold maxLen; omega) (by omega) (by simp; have := blk_lt CN.out.h.blk; omega) ?_))
            intro ao6 cap6 w6 hown6 hU6 hn6
            have hgr := grown_upd hU6
            have hw6 : Own w6 (H + 1) TFn 2 (fun (f : Nat × Nat) cs => cs = [.int .i64 (f.1 : Int), .int .u8 (f.2 : Int)]) (.slice ao6 (FF.length + 1) cap6) (FF ++ [(i, 3)]) :=
              Own.more Q1.out Q2.out rfl rfl (by intro u hu; simp only [List.mem_cons, List.not_mem_nil, or_false] at hu; rcases hu with rfl | rfl <;> rfl) rfl hown6
            have hfn : FF ++ [(i, 3)] = auditM out l told i ++ foundK (bitsM cs wm l told i t) i 3 := by rw [HFN.out, ← List.append_assoc, hFF]
            rw [hfn] at hw6
            have hol := Own.lt CN.out.o
            have hne := CN.out.ne
            rw [hFF] at hol hne
            have hHv := Own.lt CN.out.h.hd
            have nf := NF.out
            rw [hFF] at nf
            have hn7 : ∀ g, (Value.slice ao6 (FF.length + 1) cap6).ownBlock = some g → (Value.slice xf FF.length cf).ownBlock = some g ∨ wn.heap.size ≤ g := fun g hg => (hn6 g hg).imp id fun h => by omega
            have hBn := blk_lt AN.out
            have hck6 : Ck w w6 T H mb ma mn ms mw mp (.slice xl l.length cpl) (.slice xo told.length cp) _ (.slice ao6 (FF.length + 1) cap6) (stK cs wm l told i 3) (auditM out l told i ++ foundK (bitsM cs wm l told i t) i 3) :=
              ⟨CN.out.u.trans_new hgr (fun k hk => .inr (by have := (hol k (by simpa using hk)).1; omega)), CN.out.h.away hgr (fun k hk => ⟨by have := (hol k (by simpa using hk)).1; omega, hne k (by simpa using hk)⟩), hw6, fun g hg hv => by
                rcases hn7 g hg with h1 | h1
                · exact hne g h1 hv
                · have := (hHv g hv).2; omega⟩
            have CK6 := hide hck6
            have AN6 := hide (hgr.get AN.out (fun hm => nf (by simpa using hm)))
            have NF6 := hide (show (Value.slice ao6 (FF.length + 1) cap6).ownBlock ≠ some Bf from fun h => by
              rcases hn7 _ h with h1 | h1
              · exact nf h1
              · omega)
            clear hown6 hU6 hn6 hgr hw6 hol hne hHv nf hn7 hck6 Q1 Q2 Q3 CN AN NF hfn
            go_wp2_with fail
            go_roundw
            case rel => exact ⟨3, _, by omega, by go_num, CK6.out, AN6.out, NF6.out, NVN.out⟩
            case measure => simp [RowKit.intOf]
        · have c0 : wq.cell? ⟨Bf, 3, none⟩ = some (.func (.func 56) #[] #[]) := blk_cell AF.out rfl
          obtain ⟨bo, hbo⟩ : ∃ bo, (!risesM t.done) = bo := ⟨_, rfl⟩
          have HBIT : Hid ((bitsM cs wm l told i t)[3]? = some bo) := hide (by rw [← hbo]; rfl)
          go_wp2_with fail
          refine (order_any (i := i) wq (CQ.out.h) (toK.row_upd_nil HT.out CQ.out.u) TI.out).mono ?_
          rintro e wn ⟨rfl, hu⟩
          have CN := hide (CQ.out.turn (x' := stK cs wm l told i 4) hu (fun k hk => by simp at hk) (CQ.out.h.upd_nil hu) (fun g hg => .inl hg))
          have AN := hide (hu.get AF.out (by simp))
          have NVN := NV
          rw [show (!risesM t.done) = bo from hbo]
          have FL := hide (found_len (told := told) (log := out) (l := l) (bits := bitsM cs wm l told i t) (n := i) (k := 3) (by omega) (by omega))
          clear hu hbo c0 AF CQ NV
          cases bo with
          | false =>
            have hfn := found_next (i := i) HBIT.out
            rw [if_neg (by simp), List.append_nil] at hfn
            have HFN := hide hfn
            clear hfn
            go_wp2_with fail
            go_roundw
            case rel => exact ⟨4, _, by omega, by go_num, by rw [HFN.out]; exact CN.out, AN.out, NF.out, NVN.out⟩
            case measure => simp [RowKit.intOf]
          | true =>
            have hfn := found_next (i := i) HBIT.out
            rw [if_pos rfl] at hfn
            have HFN := hide hfn
            have hfl := FL.out
            obtain ⟨xf, cf, rfl, hcf, hcfm⟩ := Row.slice (Own.row CN.out.o)
            obtain ⟨FF, hFF⟩ : ∃ FF, auditM out l told i ++ foundK (bitsM cs wm l told i t) i 3 = FF := ⟨_, rfl⟩
            rw [hFF] at hcf hfl ⊢
            have hone := CN.out.o
            rw [hFF] at hone
            obtain ⟨css, q1, q2, q3⟩ := hone
            have Q1 := hide q1; have Q2 := hide q2; have Q3 := hide q3
            clear q1 q2 q3 hfn
            go_wp2_with (at_builtin; go_must (refine wpList_append_src _ rfl _ _ 44 rfl (H + 1) TFn i3 (.agg #[.int .i64 0, .int .u8 0]) 2 16 Tryz.underlying44 hi3 kz0 kz1 kz2 rfl (by decide) (.slice xf FF.length cf) FF.length css.flatten rfl (owns_upd Q3.out ((Upd.refl [] wn).alloc _) (by simp)) (some ⟨wn.heap.size, 0, none⟩) 1 1 [.int .i64 (i : Int), .int .u8 4] rfl (fn_src (blk_new _ _)) (by unfold maxLen; omega) (by omega) (by simp; have := blk_lt CN.out.h.blk; omega) ?_))
            intro ao6 cap6 w6 hown6 hU6 hn6
            have hgr := grown_upd hU6
            have hw6 : Own w6 (H + 1) TFn 2 (fun (f : Nat × Nat) cs => cs = [.int .i64 (f.1 : Int), .int .u8 (f.2 : Int)]) (.slice ao6 (FF.length + 1) cap6) (FF ++ [(i, 4)]) :=
              Own.more Q1.out Q2.out rfl rfl (by intro u hu; simp only [List.mem_cons, List.not_mem_nil, or_false] at hu; rcases hu with rfl | rfl <;> rfl) rfl hown6
            have hfn : FF ++ [(i, 4)] = auditM out l told i ++ foundK (bitsM cs wm l told i t) i 4 := by rw [HFN.out, ← List.append_assoc, hFF]
            rw [hfn] at hw6
            have hol := Own.lt CN.out.o
            have hne := CN.out.ne
            rw [hFF] at hol hne
            have hHv := Own.lt CN.out.h.hd
            have nf := NF.out
            rw [hFF] at nf
            have hn7 : ∀ g, (Value.slice ao6 (FF.length + 1) cap6).ownBlock = some g → (Value.slice xf FF.length cf).ownBlock = some g ∨ wn.heap.size ≤ g := fun g hg => (hn6 g hg).imp id fun h => by omega
            have hBn := blk_lt AN.out
            have hck6 : Ck w w6 T H mb ma mn ms mw mp (.slice xl l.length cpl) (.slice xo told.length cp) _ (.slice ao6 (FF.length + 1) cap6) (stK cs wm l told i 4) (auditM out l told i ++ foundK (bitsM cs wm l told i t) i 4) :=
              ⟨CN.out.u.trans_new hgr (fun k hk => .inr (by have := (hol k (by simpa using hk)).1; omega)), CN.out.h.away hgr (fun k hk => ⟨by have := (hol k (by simpa using hk)).1; omega, hne k (by simpa using hk)⟩), hw6, fun g hg hv => by
                rcases hn7 g hg with h1 | h1
                · exact hne g h1 hv
                · have := (hHv g hv).2; omega⟩
            have CK6 := hide hck6
            have AN6 := hide (hgr.get AN.out (fun hm => nf (by simpa using hm)))
            have NF6 := hide (show (Value.slice ao6 (FF.length + 1) cap6).ownBlock ≠ some Bf from fun h => by
              rcases hn7 _ h with h1 | h1
              · exact nf h1
              · omega)
            clear hown6 hU6 hn6 hgr hw6 hol hne hHv nf hn7 hck6 Q1 Q2 Q3 CN AN NF hfn
            go_wp2_with fail
            go_roundw
            case rel => exact ⟨4, _, by omega, by go_num, CK6.out, AN6.out, NF6.out, NVN.out⟩
            case measure => simp [RowKit.intOf]
        · have c0 : wq.cell? ⟨Bf, 4, none⟩ = some (.func (.func 57) #[] #[]) := blk_cell AF.out rfl
          obtain ⟨bo, hbo⟩ : ∃ bo, b5 wm told i t = bo := ⟨_, rfl⟩
          have HBIT : Hid ((bitsM cs wm l told i t)[4]? = some bo) := hide (by rw [← hbo]; rfl)
          go_wp2_with fail
          have hnx := dones_next TI.out
          refine (fold_any (i := i) (L := dones told i) wq (CQ.out.h) (toK.row_upd_nil HT.out CQ.out.u) TI.out rfl).mono ?_
          rw [← hnx]
          rintro e wn ⟨rfl, hf, hu⟩
          have CN := hide (CQ.out.turn (x' := stK cs wm l told i 5) hu (fun k hk => by simp at hk; omega) (CQ.out.h.setSeen hu (by exact hf)) (fun g hg => .inl hg))
          have AN := hide (hu.get AF.out (by simp; omega))
          have NVN := NV
          rw [show (t.done.any fun d => (findD (dones told i) d.1).isNone && ((stK cs wm l told i 4).wrong d.1).getD false) = bo from hbo]
          have FL := hide (found_len (told := told) (log := out) (l := l) (bits := bitsM cs wm l told i t) (n := i) (k := 4) (by omega) (by omega))
          clear hu hbo c0 AF CQ NV hf
          cases bo with
          | false =>
            have hfn := found_next (i := i) HBIT.out
            rw [if_neg (by simp), List.append_nil] at hfn
            have HFN := hide hfn
            clear hfn
            go_wp2_with fail
            go_roundw
            case rel => exact ⟨5, _, by omega, by go_num, by rw [HFN.out]; exact CN.out, AN.out, NF.out, NVN.out⟩
            case measure => simp [RowKit.intOf]
          | true =>
            have hfn := found_next (i := i) HBIT.out
            rw [if_pos rfl] at hfn
            have HFN := hide hfn
            have hfl := FL.out
            obtain ⟨xf, cf, rfl, hcf, hcfm⟩ := Row.slice (Own.row CN.out.o)
            obtain ⟨FF, hFF⟩ : ∃ FF, auditM out l told i ++ foundK (bitsM cs wm l told i t) i 4 = FF := ⟨_, rfl⟩
            rw [hFF] at hcf hfl ⊢
            have hone := CN.out.o
            rw [hFF] at hone
            obtain ⟨css, q1, q2, q3⟩ := hone
            have Q1 := hide q1; have Q2 := hide q2; have Q3 := hide q3
            clear q1 q2 q3 hfn
            go_wp2_with (at_builtin; go_must (refine wpList_append_src _ rfl _ _ 44 rfl (H + 1) TFn i3 (.agg #[.int .i64 0, .int .u8 0]) 2 16 Tryz.underlying44 hi3 kz0 kz1 kz2 rfl (by decide) (.slice xf FF.length cf) FF.length css.flatten rfl (owns_upd Q3.out ((Upd.refl [] wn).alloc _) (by simp)) (some ⟨wn.heap.size, 0, none⟩) 1 1 [.int .i64 (i : Int), .int .u8 5] rfl (fn_src (blk_new _ _)) (by unfold maxLen; omega) (by omega) (by simp; have := blk_lt CN.out.h.blk; omega) ?_))
            intro ao6 cap6 w6 hown6 hU6 hn6
            have hgr := grown_upd hU6
            have hw6 : Own w6 (H + 1) TFn 2 (fun (f : Nat × Nat) cs => cs = [.int .i64 (f.1 : Int), .int .u8 (f.2 : Int)]) (.slice ao6 (FF.length + 1) cap6) (FF ++ [(i, 5)]) :=
              Own.more Q1.out Q2.out rfl rfl (by intro u hu; simp only [List.mem_cons, List.not_mem_nil, or_false] at hu; rcases hu with rfl | rfl <;> rfl) rfl hown6
            have hfn : FF ++ [(i, 5)] = auditM out l told i ++ foundK (bitsM cs wm l told i t) i 5 := by rw [HFN.out, ← List.append_assoc, hFF]
            rw [hfn] at hw6
            have hol := Own.lt CN.out.o
            have hne := CN.out.ne
            rw [hFF] at hol hne
            have hHv := Own.lt CN.out.h.hd
            have nf := NF.out
            rw [hFF] at nf
            have hn7 : ∀ g, (Value.slice ao6 (FF.length + 1) cap6).ownBlock = some g → (Value.slice xf FF.length cf).ownBlock = some g ∨ wn.heap.size ≤ g := fun g hg => (hn6 g hg).imp id fun h => by omega
            have hBn := blk_lt AN.out
            have hck6 : Ck w w6 T H mb ma mn ms mw mp (.slice xl l.length cpl) (.slice xo told.length cp) _ (.slice ao6 (FF.length + 1) cap6) (stK cs wm l told i 5) (auditM out l told i ++ foundK (bitsM cs wm l told i t) i 5) :=
              ⟨CN.out.u.trans_new hgr (fun k hk => .inr (by have := (hol k (by simpa using hk)).1; omega)), CN.out.h.away hgr (fun k hk => ⟨by have := (hol k (by simpa using hk)).1; omega, hne k (by simpa using hk)⟩), hw6, fun g hg hv => by
                rcases hn7 g hg with h1 | h1
                · exact hne g h1 hv
                · have := (hHv g hv).2; omega⟩
            have CK6 := hide hck6
            have AN6 := hide (hgr.get AN.out (fun hm => nf (by simpa using hm)))
            have NF6 := hide (show (Value.slice ao6 (FF.length + 1) cap6).ownBlock ≠ some Bf from fun h => by
              rcases hn7 _ h with h1 | h1
              · exact nf h1
              · omega)
            clear hown6 hU6 hn6 hgr hw6 hol hne hHv nf hn7 hck6 Q1 Q2 Q3 CN AN NF hfn
            go_wp2_with fail
            go_roundw
            case rel => exact ⟨5, _, by omega, by go_num, CK6.out, AN6.out, NF6.out, NVN.out⟩
            case measure => simp [RowKit.intOf]
        · have c0 : wq.cell? ⟨Bf, 5, none⟩ = some (.func (.func 58) #[] #[]) := blk_cell AF.out rfl
          obtain ⟨bo, hbo⟩ : ∃ bo, b6 cs l told i t = bo := ⟨_, rfl⟩
          have HBIT : Hid ((bitsM cs wm l told i t)[5]? = some bo) := hide (by rw [← hbo]; rfl)
          go_wp2_with fail
          refine (late_any (i := i) wq (CQ.out.h) (enK.row_upd_nil HL.out CQ.out.u) (toK.row_upd_nil HT.out CQ.out.u) TI.out).mono ?_
          rw [show lateM l t i (stK cs wm l told i 5) = b6 cs l told i t from late_st, show numNext l t i (stK cs wm l told i 5).num = numMap (handedM l told (i + 1)) from num_next TI.out, show lastP (stK cs wm l told i 5).pl (stK cs wm l told i 5).last t.ans = lastM cs told (i + 1) from last_next TI.out]
          rintro e wn ⟨rfl, hbb, hf, hu⟩
          have CN := hide (CQ.out.turn (x' := stK cs wm l told i 6) hu (fun k hk => by simp at hk; omega) (CQ.out.h.setLate hu (by exact hf) (by exact hbb)) (fun g hg => .inl hg))
          have AN := hide (hu.get AF.out (by simp; omega))
          have NVN := NV
          rw [show b6 cs l told i t = bo from hbo]
          have FL := hide (found_len (told := told) (log := out) (l := l) (bits := bitsM cs wm l told i t) (n := i) (k := 5) (by omega) (by omega))
          clear hu hbo c0 AF CQ NV hf
          cases bo with
          | false =>
            have hfn := found_next (i := i) HBIT.out
            rw [if_neg (by simp), List.append_nil] at hfn
            have HFN := hide hfn
            clear hfn
            go_wp2_with fail
            go_roundw
            case rel => exact ⟨6, _, by omega, by go_num, by rw [HFN.out]; exact CN.out, AN.out, NF.out, NVN.out⟩
            case measure => simp [RowKit.intOf]
          | true =>
            have hfn := found_next (i := i) HBIT.out
            rw [if_pos rfl] at hfn
            have HFN := hide hfn
            have hfl := FL.out
            obtain ⟨xf, cf, rfl, hcf, hcfm⟩ := Row.slice (Own.row CN.out.o)
            obtain ⟨FF, hFF⟩ : ∃ FF, auditM out l told i ++ foundK (bitsM cs wm l told i t) i 5 = FF := ⟨_, rfl⟩
            rw [hFF] at hcf hfl ⊢
            have hone := CN.out.o
            rw [hFF] at hone
            obtain ⟨css, q1, q2, q3⟩ := hone
            have Q1 := hide q1; have Q2 := hide q2; have Q3 := hide q3
            clear q1 q2 q3 hfn
            go_wp2_with (at_builtin; go_must (refine wpList_append_src _ rfl _ _ 44 rfl (H + 1) TFn i3 (.agg #[.int .i64 0, .int .u8 0]) 2 16 Tryz.underlying44 hi3 kz0 kz1 kz2 rfl (by decide) (.slice xf FF.length cf) FF.length css.flatten rfl (owns_upd Q3.out ((Upd.refl [] wn).alloc _) (by simp)) (some ⟨wn.heap.size, 0, none⟩) 1 1 [.int .i64 (i : Int), .int .u8 6] rfl (fn_src (blk_new _ _)) (by unfold maxLen; omega) (by omega) (by simp; have := blk_lt CN.out.h.blk; omega) ?_))
            intro ao6 cap6 w6 hown6 hU6 hn6
            have hgr := grown_upd hU6
            have hw6 : Own w6 (H + 1) TFn 2 (fun (f : Nat × Nat) cs => cs = [.int .i64 (f.1 : Int), .int .u8 (f.2 : Int)]) (.slice ao6 (FF.length + 1) cap6) (FF ++ [(i, 6)]) :=
              Own.more Q1.out Q2.out rfl rfl (by intro u hu; simp only [List.mem_cons, List.not_mem_nil, or_false] at hu; rcases hu with rfl | rfl <;> rfl) rfl hown6
            have hfn : FF ++ [(i, 6)] = auditM out l told i ++ foundK (bitsM cs wm l told i t) i 6 := by rw [HFN.out, ← List.append_assoc, hFF]
            rw [hfn] at hw6
            have hol := Own.lt CN.out.o
            have hne := CN.out.ne
            rw [hFF] at hol hne
            have hHv := Own.lt CN.out.h.hd
            have nf := NF.out
            rw [hFF] at nf
            have hn7 : ∀ g, (Value.slice ao6 (FF.length + 1) cap6).ownBlock = some g → (Value.slice xf FF.length cf).ownBlock = some g ∨ wn.heap.size ≤ g := fun g hg => (hn6 g hg).imp id fun h => by omega
            have hBn := blk_lt AN.out
            have hck6 : Ck w w6 T H mb ma mn ms mw mp (.slice xl l.length cpl) (.slice xo told.length cp) _ (.slice ao6 (FF.length + 1) cap6) (stK cs wm l told i 6) (auditM out l told i ++ foundK (bitsM cs wm l told i t) i 6) :=
              ⟨CN.out.u.trans_new hgr (fun k hk => .inr (by have := (hol k (by simpa using hk)).1; omega)), CN.out.h.away hgr (fun k hk => ⟨by have := (hol k (by simpa using hk)).1; omega, hne k (by simpa using hk)⟩), hw6, fun g hg hv => by
                rcases hn7 g hg with h1 | h1
                · exact hne g h1 hv
                · have := (hHv g hv).2; omega⟩
            have CK6 := hide hck6
            have AN6 := hide (hgr.get AN.out (fun hm => nf (by simpa using hm)))
            have NF6 := hide (show (Value.slice ao6 (FF.length + 1) cap6).ownBlock ≠ some Bf from fun h => by
              rcases hn7 _ h with h1 | h1
              · exact nf h1
              · omega)
            clear hown6 hU6 hn6 hgr hw6 hol hne hHv nf hn7 hck6 Q1 Q2 Q3 CN AN NF hfn
            go_wp2_with fail
            go_roundw
            case rel => exact ⟨6, _, by omega, by go_num, CK6.out, AN6.out, NF6.out, NVN.out⟩
            case measure => simp [RowKit.intOf]
        · go_wp2_with fail
          go_roundw
          case rel =>
            refine ⟨i + 1, hv, by omega, by go_num, ?_⟩
            have hn := audit_next (log := out) (l := l) TI.out
            rw [HCS.out, HWM.out] at hn
            rw [hn]
            exact CQ.out
          case measure => simp [RowKit.intOf]; omega
    · have d5 : decide ((i : Int) < told.length) = false := by simp; omega
      have d5' : decide (i < told.length) = false := by simpa using hil
      have hie : i = told.length := by omega
      have HIE := hide hie
      clear hie
      go_wp2_with fail
      go_ret
      rw [← HIE.out]
      refine ⟨⟨out, _, rfl, LOG.out, ?_⟩, CI.out.u⟩
      exact Row.mono (Own.row CI.out.o) (fun k hk => ⟨by have := (Own.lt CI.out.o k hk).1; have := HZ.out; omega, (Own.lt CI.out.o k hk).2⟩) (fun _ _ _ h => h)
end Go.Proofs.YtfmaflaoplkdbaaGreatDoor.Au
