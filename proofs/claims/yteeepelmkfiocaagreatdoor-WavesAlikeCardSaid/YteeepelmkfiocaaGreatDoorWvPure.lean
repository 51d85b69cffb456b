/- WvM, WvO, WvP, WvQ, WvS in one text. -/
import Derived.Test.YteeepelmkfiocaaGreatDoorKvTq
import Derived.Test.YteeepelmkfiocaaGreatDoorKvLaw
namespace Go.Proofs.YteeepelmkfiocaaGreatDoor.Kv
set_option linter.unusedSimpArgs false
set_option linter.unusedVariables false
set_option linter.unnecessarySimpa false
open Go.RowKit Go.Proofs.YteeepelmkfiocaaGreatDoor.Crc Go.Proofs.YteeepelmkfiocaaGreatDoor.Cm

theorem look_put {t : TM} {i j q : Nat} {x : La} (h : i ≠ j) : lookM (mput cliK t i x) j q = lookM t j q := by
  unfold lookM
  rw [mfind_put, if_neg (fun e => h e.symm)]
theorem put_swap {t : TM} {i j : Nat} {x y : La} (ht : Rise cliK t) (h : i ≠ j) : mput cliK (mput cliK t i x) j y = mput cliK (mput cliK t j y) i x :=
  rise_ext (rise_put (rise_put ht)) (rise_put (rise_put ht)) fun k => by
    rw [mfind_put, mfind_put, mfind_put, mfind_put]
    by_cases h1 : k = j
    · subst h1; rw [if_pos rfl, if_neg (fun e => h e.symm), if_pos rfl]
    · by_cases h2 : k = i
      · subst h2; rw [if_neg h1, if_pos rfl, if_pos rfl]
      · rw [if_neg h1, if_neg h2, if_neg h2, if_neg h1]
/-- An application's rows rise. -/
structure ApRise (a : Ap) : Prop where
  m : Rise strK a.m
  t : Rise cliK a.t
theorem ApRise.next {a : Ap} {c : Cm} (h : ApRise a) : ApRise (apDo a c).1 := by
  unfold apDo
  split
  · exact h
  · split
    · exact ⟨rise_do h.m, rise_put h.t⟩
    · exact h
/-- Not in each other's way. -/
def Apart (c d : Cm) : Prop := c.client ≠ d.client ∧ ∀ k ∈ d.keys, k ∉ c.keys
theorem Apart.symm {c d : Cm} (h : Apart c d) : Apart d c := ⟨fun e => h.1 e.symm, fun k hk hd => h.2 k hd hk⟩
def Fr (a : Ap) (c : Cm) : Prop := c.client ≠ 0 ∧ (lookM a.t c.client c.seq).2 = 0
theorem ap_old {a : Ap} {c : Cm} (h : ¬ Fr a c) : ∃ r, ∀ b : Ap, lookM b.t c.client c.seq = lookM a.t c.client c.seq → apDo b c = (b, r, false) := by
  by_cases h0 : c.client = 0
  · exact ⟨_, fun b _ => by unfold apDo; rw [if_pos h0]⟩
  · have h1 : ¬ (lookM a.t c.client c.seq).2 = 0 := fun e => h ⟨h0, e⟩
    exact ⟨_, fun b hb => by unfold apDo; rw [if_neg h0, hb, if_neg h1]⟩
theorem ap_fresh {a b : Ap} {c : Cm} (h : Fr a c) (hb : lookM b.t c.client c.seq = lookM a.t c.client c.seq) :
    apDo b c = (⟨(kvDo b.m c).1, mput cliK b.t c.client ⟨c.seq, (kvDo b.m c).2⟩, b.n + 1⟩, (kvDo b.m c).2, true) := by
  unfold apDo
  rw [if_neg h.1, hb, if_pos h.2]
theorem ap_apart {a : Ap} {c d : Cm} (ha : ApRise a) (h : Apart c d) :
    (apDo (apDo a c).1 d).2 = (apDo a d).2 ∧ (apDo (apDo a d).1 c).2 = (apDo a c).2 ∧ (apDo (apDo a c).1 d).1 = (apDo (apDo a d).1 c).1 := by
  obtain ⟨e1, e2, e3⟩ := do_apart (a := c) (b := d) ha.m h.2
  have l1 := fun (x : La) => look_put (t := a.t) (x := x) (q := d.seq) h.1
  have l2 := fun (x : La) => look_put (t := a.t) (x := x) (q := c.seq) (fun e => h.1 e.symm)
  by_cases fc : Fr a c
  · have hc := ap_fresh fc (b := a) rfl
    by_cases fd : Fr a d
    · have hd := ap_fresh fd (b := a) rfl
      rw [hc, hd]
      simp only
      rw [ap_fresh fd (l1 _), ap_fresh fc (l2 _)]
      simp only
      rw [e1, e2, e3, put_swap ha.t h.1]
      exact ⟨rfl, rfl, rfl⟩
    · obtain ⟨r, hr⟩ := ap_old fd
      have hd := hr a rfl
      rw [hc, hd]
      simp only
      rw [hr _ (l1 _), hc]
      exact ⟨rfl, rfl, rfl⟩
  · obtain ⟨r, hr⟩ := ap_old fc
    have hc := hr a rfl
    by_cases fd : Fr a d
    · have hd := ap_fresh fd (b := a) rfl
      rw [hc, hd]
      simp only
      rw [hr _ (l2 _)]
      exact ⟨trivial, rfl, rfl⟩
    · obtain ⟨r2, hr2⟩ := ap_old fd
      have hd := hr2 a rfl
      rw [hc, hd]
      simp only
      rw [hc]
      exact ⟨trivial, rfl, rfl⟩
/-! ### runs: of places, in some order -/
def cm0 : Cm := ⟨0, 0, 0, [], [], [], 0⟩
/-- What a run tells: of each place in its order, the reply and whether it was fresh; and the application behind it. -/
def runM (l : List Cm) : Ap → List Nat → Ap × List (Nat × Rp × Bool)
  | a, [] => (a, [])
  | a, p :: ps => ((runM l (apDo a (l.getD p cm0)).1 ps).1, (p, (apDo a (l.getD p cm0)).2) :: (runM l (apDo a (l.getD p cm0)).1 ps).2)
theorem run_app (l : List Cm) : ∀ (ps qs : List Nat) (a : Ap), runM l a (ps ++ qs) = ((runM l (runM l a ps).1 qs).1, (runM l a ps).2 ++ (runM l (runM l a ps).1 qs).2)
  | [], qs, a => rfl
  | p :: ps, qs, a => by
    simp only [List.cons_append, runM]
    rw [run_app l ps qs]
theorem run_rise (l : List Cm) : ∀ (ps : List Nat) (a : Ap), ApRise a → ApRise (runM l a ps).1
  | [], a, h => h
  | p :: ps, a, h => run_rise l ps _ h.next
/-- A place goes to the front past places that are not in its way. -/
theorem run_front (l : List Cm) (x : Nat) : ∀ (us : List Nat) (a : Ap), ApRise a → (∀ p ∈ us, Apart (l.getD p cm0) (l.getD x cm0)) →
    (runM l a (us ++ [x])).1 = (runM l a (x :: us)).1 ∧ ∃ t, (runM l a (us ++ [x])).2 = (runM l (apDo a (l.getD x cm0)).1 us).2 ++ [t] ∧ t = (x, (apDo a (l.getD x cm0)).2)
  | [], a, ha, _ => ⟨rfl, _, rfl, rfl⟩
  | p :: us, a, ha, h => by
    obtain ⟨k1, k2, k3⟩ := ap_apart ha (h p (by simp))
    obtain ⟨i1, t, i2, i3⟩ := run_front l x us (apDo a (l.getD p cm0)).1 ha.next (fun q hq => h q (by simp [hq]))
    simp only [List.cons_append, runM] at i1 i2 i3 ⊢
    rw [i1, k3]
    refine ⟨rfl, t, ?_, ?_⟩
    · rw [i2, k2, k3]
    · rw [i3, k1]
/-- An order in which what is in each other's way rises tells what the places one by one tell. -/
theorem run_sorted (l : List Cm) : ∀ (qs ps : List Nat) (a : Ap), ApRise a → ps.Perm qs → qs.Pairwise (· < ·) → ps.Pairwise (fun p q => q < p → Apart (l.getD p cm0) (l.getD q cm0)) →
    (runM l a ps).1 = (runM l a qs).1 ∧ ∀ t, t ∈ (runM l a ps).2 ↔ t ∈ (runM l a qs).2
  | [], ps, a, _, hp, _, _ => by
    rw [List.perm_nil.1 hp]
    exact ⟨rfl, fun _ => Iff.rfl⟩
  | x :: qs, ps, a, ha, hp, hs, hw => by
    obtain ⟨us, vs, rfl⟩ := List.append_of_mem (hp.mem_iff.2 (List.mem_cons_self))
    obtain ⟨hx, hs'⟩ := List.pairwise_cons.1 hs
    have hp' : (us ++ vs).Perm qs := by
      have h1 : (us ++ x :: vs).Perm (x :: (us ++ vs)) := List.perm_middle
      exact (List.perm_cons x).1 (h1.symm.trans hp)
    obtain ⟨w1, w2, w3⟩ := List.pairwise_append.1 hw
    have hfr : ∀ p ∈ us, Apart (l.getD p cm0) (l.getD x cm0) := fun p hpu => by
      refine w3 p hpu x (by simp) ?_
      exact hx p (hp'.mem_iff.1 (by simp [hpu]))
    have hw' : (us ++ vs).Pairwise (fun p q => q < p → Apart (l.getD p cm0) (l.getD q cm0)) :=
      List.pairwise_append.2 ⟨w1, (List.pairwise_cons.1 w2).2, fun p hpu q hq => w3 p hpu q (by simp [hq])⟩
    obtain ⟨i1, i2⟩ := run_sorted l qs (us ++ vs) (apDo a (l.getD x cm0)).1 ha.next hp' hs' hw'
    obtain ⟨f1, t, f2, rfl⟩ := run_front l x us a ha hfr
    have e : us ++ x :: vs = (us ++ [x]) ++ vs := by simp
    rw [e, run_app, f1, f2]
    rw [run_app] at i1 i2
    simp only [runM] at i1 i2 ⊢
    refine ⟨i1, fun t => ?_⟩
    have := i2 t
    simp only [List.mem_append, List.mem_cons, List.not_mem_nil, or_false] at this ⊢
    rw [← this]
    constructor
    · rintro ((h | h) | h)
      · exact .inr (.inl h)
      · exact .inl h
      · exact .inr (.inr h)
    · rintro (h | h | h)
      · exact .inl (.inr h)
      · exact .inl (.inl h)
      · exact .inr h
end Go.Proofs.YteeepelmkfiocaaGreatDoor.Kv
namespace Go.Proofs.YteeepelmkfiocaaGreatDoor.Kv
set_option linter.unusedSimpArgs false
set_option linter.unusedVariables false
set_option linter.unnecessarySimpa false
open Go.RowKit Go.Proofs.YteeepelmkfiocaaGreatDoor.Crc Go.Proofs.YteeepelmkfiocaaGreatDoor.Cm

/-- The next wave behind those that touched a key, or a client's; and behind the last lone one. -/
structure Ft where
  ks : List (List UInt8 × Nat)
  cs : List (Nat × Nat)
  lone : Nat
  top : Nat
def at0 {κ : Type} [DecidableEq κ] (m : List (κ × Nat)) (k : κ) : Nat := (mfind m k).getD 0
def wvMax (m : List (List UInt8 × Nat)) (l : List (List UInt8)) (w : Nat) : Nat := l.foldl (fun w k => max w (at0 m k)) w
def wvPut (m : List (List UInt8 × Nat)) (l : List (List UInt8)) (v : Nat) : List (List UInt8 × Nat) := l.foldl (fun m k => mput strK m k v) m
def loneM (c : Cm) : Bool := decide (4 < (sortM c.keys).length)
def ftW (f : Ft) (c : Cm) : Nat := if loneM c then f.top else wvMax f.ks (sortM c.keys) (max f.lone (at0 f.cs c.client))
def ftNext (f : Ft) (c : Cm) : Ft :=
  ⟨wvPut f.ks (sortM c.keys) (ftW f c + 1), mput cliK f.cs c.client (ftW f c + 1), if loneM c then ftW f c + 1 else f.lone, max f.top (ftW f c + 1)⟩
def wavesF : Ft → List Cm → List Nat
  | _, [] => []
  | f, c :: l => ftW f c :: wavesF (ftNext f c) l
def ft0 : Ft := ⟨[], [], 0, 0⟩
def wavesM (l : List Cm) : List Nat := wavesF ft0 l
theorem waves_len : ∀ (l : List Cm) (f : Ft), (wavesF f l).length = l.length
  | [], _ => rfl
  | c :: l, f => by simp [wavesF, waves_len l]
theorem at0_put {κ : Type} [DecidableEq κ] {K : Kys κ} {m : List (κ × Nat)} {k j : κ} {v : Nat} : at0 (mput K m k v) j = if j = k then v else at0 m j := by
  unfold at0; rw [mfind_put]; split <;> rfl
theorem at0_wvPut : ∀ {l : List (List UInt8)} {m : List (List UInt8 × Nat)} {v : Nat} {j : List UInt8}, at0 (wvPut m l v) j = if j ∈ l then v else at0 m j
  | [], m, v, j => by simp [wvPut]
  | k :: l, m, v, j => by
    have := at0_wvPut (l := l) (m := mput strK m k v) (v := v) (j := j)
    unfold wvPut at this ⊢
    rw [List.foldl_cons, this, at0_put]
    by_cases h1 : j ∈ l
    · simp [h1]
    · by_cases h2 : j = k
      · simp [h2]
      · simp [h1, h2]
theorem wvMax_ge {m : List (List UInt8 × Nat)} : ∀ {l : List (List UInt8)} {w : Nat}, w ≤ wvMax m l w ∧ ∀ k ∈ l, at0 m k ≤ wvMax m l w
  | [], w => ⟨Nat.le_refl _, fun _ h => nomatch h⟩
  | k :: l, w => by
    obtain ⟨h1, h2⟩ := wvMax_ge (m := m) (l := l) (w := max w (at0 m k))
    have e : wvMax m (k :: l) w = wvMax m l (max w (at0 m k)) := rfl
    rw [e]
    refine ⟨by omega, fun j hj => ?_⟩
    rcases List.mem_cons.1 hj with rfl | hj
    · omega
    · exact h2 j hj
theorem wvMax_le {m : List (List UInt8 × Nat)} {b : Nat} (hm : ∀ k, at0 m k ≤ b) : ∀ {l : List (List UInt8)} {w : Nat}, w ≤ b → wvMax m l w ≤ b
  | [], w, h => h
  | k :: l, w, h => by
    have e : wvMax m (k :: l) w = wvMax m l (max w (at0 m k)) := rfl
    rw [e]
    exact wvMax_le hm (Nat.max_le.2 ⟨h, hm k⟩)
structure FtOk (f : Ft) : Prop where
  l : f.lone ≤ f.top
  k : ∀ k, at0 f.ks k ≤ f.top
  c : ∀ k, at0 f.cs k ≤ f.top
theorem ft0_ok : FtOk ft0 := ⟨Nat.le_refl _, fun _ => Nat.le_refl _, fun _ => Nat.le_refl _⟩
theorem FtOk.w {f : Ft} {c : Cm} (h : FtOk f) : ftW f c ≤ f.top := by
  unfold ftW
  split
  · exact Nat.le_refl _
  · exact wvMax_le h.k (Nat.max_le.2 ⟨h.l, h.c _⟩)
theorem FtOk.next {f : Ft} {c : Cm} (h : FtOk f) : FtOk (ftNext f c) := by
  have h1 := h.l
  refine ⟨?_, fun k => ?_, fun k => ?_⟩
  · show (if loneM c then ftW f c + 1 else f.lone) ≤ max f.top (ftW f c + 1)
    split <;> omega
  · show at0 (wvPut f.ks (sortM c.keys) (ftW f c + 1)) k ≤ max f.top (ftW f c + 1)
    rw [at0_wvPut]; have := h.k k; split <;> omega
  · show at0 (mput cliK f.cs c.client (ftW f c + 1)) k ≤ max f.top (ftW f c + 1)
    rw [at0_put]; have := h.c k; split <;> omega
/-- A command had a wave: what is in its way comes behind it. -/
structure Past (f : Ft) (c : Cm) (w : Nat) : Prop where
  cl : w < at0 f.cs c.client
  ke : ∀ k ∈ sortM c.keys, w < at0 f.ks k
  lo : loneM c = true → w < f.lone
  tp : w < f.top
theorem past_self {f : Ft} {c : Cm} : Past (ftNext f c) c (ftW f c) := by
  refine ⟨?_, fun k hk => ?_, fun hl => ?_, ?_⟩
  · show _ < at0 (mput cliK f.cs c.client (ftW f c + 1)) _
    rw [at0_put, if_pos rfl]; omega
  · show _ < at0 (wvPut f.ks (sortM c.keys) (ftW f c + 1)) k
    rw [at0_wvPut, if_pos hk]; omega
  · show _ < (if loneM c then ftW f c + 1 else f.lone)
    rw [if_pos hl]; omega
  · show _ < max f.top (ftW f c + 1)
    omega
theorem Past.way {f : Ft} {c d : Cm} {w : Nat} (h : Past f c w) (hw : c.client = d.client ∨ (∃ k, k ∈ sortM c.keys ∧ k ∈ sortM d.keys) ∨ loneM c = true ∨ loneM d = true) : w < ftW f d := by
  unfold ftW
  split
  · exact h.tp
  · rename_i hd
    obtain ⟨g1, g2⟩ := wvMax_ge (m := f.ks) (l := sortM d.keys) (w := max f.lone (at0 f.cs d.client))
    rcases hw with e | ⟨k, hk, hk'⟩ | e | e
    · have := h.cl; rw [e] at this; omega
    · have := h.ke k hk; have := g2 k hk'; omega
    · have := h.lo e; omega
    · exact absurd e hd
theorem Past.next {f : Ft} {c d : Cm} {w : Nat} (h : Past f c w) : Past (ftNext f d) c w := by
  refine ⟨?_, fun k hk => ?_, fun hl => ?_, ?_⟩
  · show _ < at0 (mput cliK f.cs d.client (ftW f d + 1)) _
    rw [at0_put]
    split
    · rename_i e; have := h.way (d := d) (.inl e); omega
    · exact h.cl
  · show _ < at0 (wvPut f.ks (sortM d.keys) (ftW f d + 1)) k
    rw [at0_wvPut]
    split
    · rename_i e; have := h.way (d := d) (.inr (.inl ⟨k, hk, e⟩)); omega
    · exact h.ke k hk
  · show _ < (if loneM d then ftW f d + 1 else f.lone)
    have := h.lo hl
    split
    · rename_i e; have := h.way (d := d) (.inr (.inr (.inr e))); omega
    · exact this
  · show _ < max f.top (ftW f d + 1)
    have := h.tp; omega
def Way (c d : Cm) : Prop := c.client = d.client ∨ (∃ k, k ∈ sortM c.keys ∧ k ∈ sortM d.keys) ∨ loneM c = true ∨ loneM d = true
theorem past_waves {c : Cm} {w : Nat} : ∀ {l : List Cm} {f : Ft}, Past f c w → ∀ p ∈ l.zip (wavesF f l), Way c p.1 → w < p.2
  | [], f, _, p, hp, _ => by simp [wavesF] at hp
  | d :: l, f, h, p, hp, hw => by
    simp only [wavesF, List.zip_cons_cons, List.mem_cons] at hp
    rcases hp with rfl | hp
    · exact h.way hw
    · exact past_waves h.next p hp hw
/-- What is in each other's way rises. -/
theorem waves_way : ∀ (l : List Cm) (f : Ft), (l.zip (wavesF f l)).Pairwise fun p q => Way p.1 q.1 → p.2 < q.2
  | [], f => by simp [wavesF]
  | c :: l, f => by
    simp only [wavesF, List.zip_cons_cons]
    exact List.pairwise_cons.2 ⟨fun q hq hw => past_waves past_self q hq hw, waves_way l _⟩
end Go.Proofs.YteeepelmkfiocaaGreatDoor.Kv
namespace Go.Proofs.YteeepelmkfiocaaGreatDoor.Kv
set_option linter.unusedSimpArgs false
set_option linter.unusedVariables false
set_option linter.unnecessarySimpa false
open Go.RowKit Go.Proofs.YteeepelmkfiocaaGreatDoor.Crc Go.Proofs.YteeepelmkfiocaaGreatDoor.Cm

theorem getD_at {α : Type} (l : List α) (d : α) {i : Nat} (h : i < l.length) : l.getD i d = l[i] := by simp [List.getD, h]
theorem erase_perm {α : Type} : ∀ {l : List α} {k : Nat} (h : k < l.length), (l[k] :: l.eraseIdx k).Perm l
  | a :: l, 0, h => by simp
  | a :: l, k + 1, h => by
    simp only [List.getElem_cons_succ, List.eraseIdx_cons_succ]
    exact (List.Perm.swap _ _ _).trans ((erase_perm (l := l) (k := k) (by simpa using h)).cons a)
/-- A wave's places as a pick says. -/
def drain (kf : Nat → Nat → Nat) : Nat → Nat → List Nat → List Nat
  | 0, _, _ => []
  | n + 1, done, left => left.getD (kf done (n + 1)) 0 :: drain kf n (done + 1) (left.eraseIdx (kf done (n + 1)))
theorem drain_perm {kf : Nat → Nat → Nat} (hk : ∀ d n, 0 < n → kf d n < n) : ∀ (n d : Nat) (l : List Nat), l.length = n → (drain kf n d l).Perm l
  | 0, d, l, h => by rw [List.length_eq_zero_iff.1 h]; rfl
  | n + 1, d, l, h => by
    have h1 : kf d (n + 1) < l.length := h ▸ hk d (n + 1) (by omega)
    have h2 := drain_perm hk n (d + 1) (l.eraseIdx (kf d (n + 1))) (by rw [List.length_eraseIdx, if_pos h1]; omega)
    show (l.getD (kf d (n + 1)) 0 :: _).Perm l
    rw [getD_at _ _ h1]
    exact (h2.cons _).trans (erase_perm h1)
/-- The places of each wave's commands. -/
def groupsM (ws : List Nat) (top : Nat) : List (List Nat) := (List.range top).map fun w => (List.range ws.length).filter fun i => decide (ws.getD i 0 = w)
def orderG (kf : Nat → Nat → Nat → Nat) : Nat → List (List Nat) → List (Nat × Nat)
  | _, [] => []
  | w, g :: gs => (drain (kf w) g.length 0 g).map (fun i => (i, w)) ++ orderG kf (w + 1) gs
section
variable {kf : Nat → Nat → Nat → Nat} (hk : ∀ w d n, 0 < n → kf w d n < n)
include hk
theorem order_mem : ∀ (gs : List (List Nat)) (w : Nat) (p : Nat × Nat), p ∈ orderG kf w gs ↔ w ≤ p.2 ∧ p.2 < w + gs.length ∧ p.1 ∈ gs.getD (p.2 - w) []
  | [], w, p => by
    simp only [orderG, List.not_mem_nil, List.length_nil, false_iff]; omega
  | g :: gs, w, (i, v) => by
    simp only [orderG, List.mem_append, List.mem_map, (drain_perm (hk w) _ 0 g rfl).mem_iff, order_mem gs (w + 1), List.length_cons, Prod.mk.injEq]
    constructor
    · rintro (⟨j, hj, rfl, rfl⟩ | ⟨h1, h2, h3⟩)
      · exact ⟨by omega, by omega, by simpa using hj⟩
      · refine ⟨by omega, by omega, ?_⟩
        have e : v - w = (v - (w + 1)) + 1 := by omega
        rw [e]; simpa using h3
    · rintro ⟨h1, h2, h3⟩
      by_cases e : v = w
      · subst e
        exact .inl ⟨i, by simpa using h3, rfl, rfl⟩
      · refine .inr ⟨by omega, by omega, ?_⟩
        have e2 : v - w = (v - (w + 1)) + 1 := by omega
        rw [e2] at h3; simpa using h3
theorem order_up : ∀ (gs : List (List Nat)) (w : Nat), (orderG kf w gs).Pairwise fun p q => p.2 ≤ q.2
  | [], w => List.Pairwise.nil
  | g :: gs, w => by
    refine List.pairwise_append.2 ⟨?_, order_up gs (w + 1), ?_⟩
    · rw [List.pairwise_map]
      exact List.pairwise_of_forall fun _ _ => Nat.le_refl _
    · intro p hp q hq
      obtain ⟨i, _, rfl⟩ := List.mem_map.1 hp
      have := ((order_mem hk gs (w + 1) q).1 hq).1
      show w ≤ q.2
      omega
theorem order_nodup : ∀ (gs : List (List Nat)) (w : Nat), (∀ g ∈ gs, g.Nodup) → gs.Pairwise (fun g h => ∀ x ∈ g, x ∉ h) → ((orderG kf w gs).map (·.1)).Nodup
  | [], w, _, _ => List.Pairwise.nil
  | g :: gs, w, hn, hd => by
    obtain ⟨d1, d2⟩ := List.pairwise_cons.1 hd
    simp only [orderG, List.map_append, List.map_map]
    have e : (Prod.fst ∘ fun i : Nat => (i, w)) = id := rfl
    rw [e, List.map_id]
    refine List.pairwise_append.2 ⟨(drain_perm (hk w) _ 0 g rfl).nodup_iff.2 (hn g (by simp)), order_nodup gs (w + 1) (fun h hh => hn h (by simp [hh])) d2, ?_⟩
    intro x hx y hy e
    subst e
    obtain ⟨p, hp, rfl⟩ := List.mem_map.1 hy
    obtain ⟨h1, h2, h3⟩ := (order_mem hk gs (w + 1) p).1 hp
    have h4 : p.2 - (w + 1) < gs.length := by omega
    rw [getD_at _ _ h4] at h3
    exact d1 _ (List.getElem_mem h4) _ ((drain_perm (hk w) _ 0 g rfl).mem_iff.1 hx) h3
theorem order_says {ws : List Nat} {top : Nat} {p : Nat × Nat} : p ∈ orderG kf 0 (groupsM ws top) ↔ p.1 < ws.length ∧ ws.getD p.1 0 = p.2 ∧ p.2 < top := by
  rw [order_mem hk]
  have hl : (groupsM ws top).length = top := by simp [groupsM]
  rw [hl]
  constructor
  · rintro ⟨_, h2, h3⟩
    have h2' : p.2 < top := by omega
    rw [Nat.sub_zero, getD_at _ _ (i := p.2) (by rw [hl]; exact h2')] at h3
    simp [groupsM] at h3
    exact ⟨h3.1, by simpa using h3.2, h2'⟩
  · rintro ⟨h1, h2, h3⟩
    refine ⟨Nat.zero_le _, by omega, ?_⟩
    rw [Nat.sub_zero, getD_at _ _ (i := p.2) (by rw [hl]; exact h3)]
    simp [groupsM]
    exact ⟨h1, by simpa using h2⟩
/-- Each place has its turn, once. -/
theorem order_perm {ws : List Nat} {top : Nat} (ht : ∀ w ∈ ws, w < top) : ((orderG kf 0 (groupsM ws top)).map (·.1)).Perm (List.range ws.length) := by
  rw [List.perm_ext_iff_of_nodup ?_ List.nodup_range]
  · intro i
    rw [List.mem_range]
    constructor
    · intro h
      obtain ⟨p, hp, rfl⟩ := List.mem_map.1 h
      exact ((order_says hk).1 hp).1
    · intro h
      refine List.mem_map.2 ⟨(i, ws.getD i 0), (order_says hk).2 ⟨h, rfl, ?_⟩, rfl⟩
      show ws.getD i 0 < top
      rw [getD_at _ _ h]
      exact ht _ (List.getElem_mem h)
  · refine order_nodup hk _ _ ?_ ?_
    · intro g hg
      obtain ⟨w, _, rfl⟩ := List.mem_map.1 hg
      exact List.nodup_range.filter _
    · unfold groupsM
      rw [List.pairwise_map]
      refine List.pairwise_lt_range.imp fun {a b} hab x hx hx' => ?_
      have h1 := (List.mem_filter.1 hx).2
      have h2 := (List.mem_filter.1 hx').2
      simp only [decide_eq_true_eq] at h1 h2
      omega
/-- Where what is in each other's way has rising waves, the order keeps it so. -/
theorem order_way {ws : List Nat} {top : Nat} {W : Nat → Nat → Prop} (hw : ∀ i j, i < j → j < ws.length → W i j → ws.getD i 0 < ws.getD j 0) :
    ((orderG kf 0 (groupsM ws top)).map (·.1)).Pairwise fun p q => q < p → ¬ W q p := by
  rw [List.pairwise_map]
  refine (List.pairwise_iff_getElem.2 fun i j hi hj hij => ?_)
  have up := List.pairwise_iff_getElem.1 (order_up hk (groupsM ws top) 0) i j hi hj hij
  obtain ⟨a1, a2, _⟩ := (order_says hk).1 (List.getElem_mem hi)
  obtain ⟨b1, b2, _⟩ := (order_says hk).1 (List.getElem_mem hj)
  intro hlt hW
  have := hw _ _ hlt a1 hW
  omega
end
end Go.Proofs.YteeepelmkfiocaaGreatDoor.Kv
namespace Go.Proofs.YteeepelmkfiocaaGreatDoor.Kv
set_option linter.unusedSimpArgs false
set_option linter.unusedVariables false
set_option linter.unnecessarySimpa false
open Go.RowKit Go.Proofs.YteeepelmkfiocaaGreatDoor.Crc Go.Proofs.YteeepelmkfiocaaGreatDoor.Cm

/-! ### again -/
def TdC (a : Ap) (c : Cm) : Prop := c.client ≠ 0 → ∃ x, mfind a.t c.client = some x ∧ c.seq ≤ x.seq
theorem tdc_self {a : Ap} {c : Cm} : TdC (apDo a c).1 c := (Told.zero [c] a).next (c := c) rfl 0 c (by omega) rfl
theorem TdC.next {a : Ap} {c d : Cm} (h : TdC a d) : TdC (apDo a c).1 d := by
  have h1 : Told [d, c] 1 a := fun j e hj he => by
    have : j = 0 := by omega
    subst this
    cases he; exact h
  exact h1.next (c := c) rfl 0 d (by omega) rfl
theorem TdC.old {a : Ap} {c : Cm} (h : TdC a c) : (apDo a c).1 = a ∧ (apDo a c).2.2 = false := by
  unfold apDo
  split
  · exact ⟨rfl, rfl⟩
  · rename_i h0
    obtain ⟨x, hf, hs⟩ := h h0
    rw [if_neg]
    · exact ⟨rfl, rfl⟩
    · unfold lookM
      rw [hf]
      simp only
      rw [if_neg (by omega)]
      split <;> simp
theorem run_keep (l : List Cm) {c : Cm} : ∀ (ps : List Nat) (a : Ap), TdC a c → TdC (runM l a ps).1 c
  | [], a, h => h
  | p :: ps, a, h => run_keep l ps _ h.next
theorem run_tells (l : List Cm) : ∀ (ps : List Nat) (a : Ap), ∀ p ∈ ps, TdC (runM l a ps).1 (l.getD p cm0)
  | [], a, p, hp => nomatch hp
  | q :: ps, a, p, hp => by
    rcases List.mem_cons.1 hp with rfl | hp
    · exact run_keep l ps _ tdc_self
    · exact run_tells l ps _ p hp
theorem run_again (l : List Cm) : ∀ (ps : List Nat) (a : Ap), (∀ p ∈ ps, TdC a (l.getD p cm0)) → (runM l a ps).1 = a ∧ ∀ t ∈ (runM l a ps).2, t.2.2 = false
  | [], a, _ => ⟨rfl, fun _ h => nomatch h⟩
  | p :: ps, a, h => by
    obtain ⟨h1, h2⟩ := (h p (by simp)).old
    obtain ⟨i1, i2⟩ := run_again l ps a fun q hq => h q (by simp [hq])
    simp only [runM]
    rw [h1]
    refine ⟨i1, fun t ht => ?_⟩
    rcases List.mem_cons.1 ht with rfl | ht
    · exact h2
    · exact i2 t ht
/-! ### what is left at the places -/
theorem run_places (l : List Cm) : ∀ (ps : List Nat) (a : Ap), (runM l a ps).2.map (·.1) = ps
  | [], a => rfl
  | p :: ps, a => by simp only [runM, List.map_cons]; rw [run_places l ps]
theorem run_one {l : List Cm} {ps : List Nat} {a : Ap} (hn : ps.Nodup) {p : Nat} {x y : Rp × Bool} (hx : (p, x) ∈ (runM l a ps).2) (hy : (p, y) ∈ (runM l a ps).2) : x = y := by
  have hp := run_places l ps a
  obtain ⟨i, hi, ei⟩ := List.mem_iff_getElem.1 hx
  obtain ⟨j, hj, ej⟩ := List.mem_iff_getElem.1 hy
  have hn' : ((runM l a ps).2.map (·.1)).Nodup := by rw [hp]; exact hn
  have h := List.pairwise_iff_getElem.1 hn'
  rcases Nat.lt_trichotomy i j with g | g | g
  · have := h i j (by simpa using hi) (by simpa using hj) g
    simp [ei, ej] at this
  · subst g; rw [ei] at ej; exact (Prod.mk.inj ej).2
  · have := h j i (by simpa using hj) (by simpa using hi) g
    simp [ei, ej] at this
structure Dn where
  r : Rp
  fresh : Bool
  wave : Nat
  turn : Nat
def dn0 : Dn := ⟨⟨0, []⟩, false, 0, 0⟩
/-- The run of an order: what is set at each place. -/
def runD (l : List Cm) : Ap → List (Nat × Nat) → Nat → List Dn → Ap × List Dn
  | a, [], _, out => (a, out)
  | a, p :: ps, t, out => runD l (apDo a (l.getD p.1 cm0)).1 ps (t + 1) (out.set p.1 ⟨(apDo a (l.getD p.1 cm0)).2.1, (apDo a (l.getD p.1 cm0)).2.2, p.2, t⟩)
theorem runD_app (l : List Cm) : ∀ (ps qs : List (Nat × Nat)) (a : Ap) (t : Nat) (out : List Dn),
    runD l a (ps ++ qs) t out = runD l (runD l a ps t out).1 qs (t + ps.length) (runD l a ps t out).2
  | [], qs, a, t, out => rfl
  | p :: ps, qs, a, t, out => by
    simp only [List.cons_append, runD, List.length_cons]
    rw [runD_app l ps qs, show t + 1 + ps.length = t + (ps.length + 1) by omega]
theorem runD_len (l : List Cm) : ∀ (ps : List (Nat × Nat)) (a : Ap) (t : Nat) (out : List Dn), (runD l a ps t out).2.length = out.length
  | [], a, t, out => rfl
  | p :: ps, a, t, out => by simp only [runD]; rw [runD_len l ps]; simp
theorem runD_ap (l : List Cm) : ∀ (ps : List (Nat × Nat)) (a : Ap) (t : Nat) (out : List Dn), (runD l a ps t out).1 = (runM l a (ps.map (·.1))).1
  | [], a, t, out => rfl
  | p :: ps, a, t, out => by simp only [runD, List.map_cons, runM]; rw [runD_ap l ps]
theorem runD_other (l : List Cm) (q : Nat) : ∀ (ps : List (Nat × Nat)) (a : Ap) (t : Nat) (out : List Dn), q ∉ ps.map (·.1) → (runD l a ps t out).2[q]? = out[q]?
  | [], a, t, out, _ => rfl
  | p :: ps, a, t, out, h => by
    simp only [List.map_cons, List.mem_cons, not_or] at h
    simp only [runD]
    rw [runD_other l q ps _ _ _ h.2, List.getElem?_set_ne (fun e => h.1 e.symm)]
theorem runD_says (l : List Cm) : ∀ (ps : List (Nat × Nat)) (a : Ap) (t : Nat) (out : List Dn), (ps.map (·.1)).Nodup → (∀ p ∈ ps, p.1 < out.length) →
    ∀ k (h : k < ps.length), ∃ r f, (ps[k].1, r, f) ∈ (runM l a (ps.map (·.1))).2 ∧ (runD l a ps t out).2[ps[k].1]? = some ⟨r, f, ps[k].2, t + k⟩
  | [], a, t, out, _, _, k, h => absurd h (Nat.not_lt_zero _)
  | p :: ps, a, t, out, hn, ho, 0, h => by
    obtain ⟨h1, h2⟩ := List.pairwise_cons.1 hn
    refine ⟨_, _, List.mem_cons_self, ?_⟩
    simp only [runD, List.getElem_cons_zero, Nat.add_zero]
    rw [runD_other l _ ps _ _ _ (fun hm => h1 _ hm rfl), List.getElem?_set_self (ho p (by simp))]
  | p :: ps, a, t, out, hn, ho, k + 1, h => by
    obtain ⟨h1, h2⟩ := List.pairwise_cons.1 hn
    obtain ⟨r, f, i1, i2⟩ := runD_says l ps (apDo a (l.getD p.1 cm0)).1 (t + 1) (out.set p.1 ⟨(apDo a (l.getD p.1 cm0)).2.1, (apDo a (l.getD p.1 cm0)).2.2, p.2, t⟩) h2
      (fun q hq => by rw [List.length_set]; exact ho q (by simp [hq])) k (by simpa using h)
    refine ⟨r, f, List.mem_cons_of_mem _ i1, ?_⟩
    simp only [runD, List.getElem_cons_succ]
    rw [i2, show t + 1 + k = t + (k + 1) by omega]
end Go.Proofs.YteeepelmkfiocaaGreatDoor.Kv
namespace Go.Proofs.YteeepelmkfiocaaGreatDoor.Kv
set_option linter.unusedSimpArgs false
set_option linter.unusedVariables false
set_option linter.unnecessarySimpa false
open Go.RowKit Go.Proofs.YteeepelmkfiocaaGreatDoor.Crc Go.Proofs.YteeepelmkfiocaaGreatDoor.Cm

/-- A pick that is a table of numbers: the place among n that it picks of a wave w when d were done. -/
def kfP (ps : List Int) (w d n : Nat) : Nat := (Int.tmod (Int.tmod (ps.getD (7 * w + d) 0) n + n) n).toNat
theorem kfP_lt (ps : List Int) (w d n : Nat) (h : 0 < n) : kfP ps w d n < n := by
  unfold kfP
  have h1 : (0 : Int) < n := by exact_mod_cast h
  generalize ps.getD (7 * w + d) 0 = v
  have h2 := Int.tmod_lt_of_pos (Int.tmod v n + n) h1
  omega
def topM (ws : List Nat) : Nat := ws.foldl (fun m w => max m (w + 1)) 0
theorem foldl_top : ∀ (ws : List Nat) (m : Nat), m ≤ ws.foldl (fun m w => max m (w + 1)) m ∧ ∀ w ∈ ws, w < ws.foldl (fun m w => max m (w + 1)) m
  | [], m => ⟨Nat.le_refl _, fun _ h => nomatch h⟩
  | v :: ws, m => by
    obtain ⟨h1, h2⟩ := foldl_top ws (max m (v + 1))
    simp only [List.foldl_cons]
    refine ⟨by omega, fun w hw => ?_⟩
    rcases List.mem_cons.1 hw with rfl | hw
    · omega
    · exact h2 w hw
theorem top_gt {ws : List Nat} : ∀ w ∈ ws, w < topM ws := (foldl_top ws 0).2
def orderM (l : List Cm) (ps : List Int) : List (Nat × Nat) := orderG (kfP ps) 0 (groupsM (wavesM l) (topM (wavesM l)))
theorem orderM_perm (l : List Cm) (ps : List Int) : ((orderM l ps).map (·.1)).Perm (List.range l.length) := by
  have h := order_perm (kfP_lt ps) (ws := wavesM l) top_gt
  rw [show (wavesM l).length = l.length from waves_len l ft0] at h
  exact h
theorem orderM_len (l : List Cm) (ps : List Int) : (orderM l ps).length = l.length := by
  have h := (orderM_perm l ps).length_eq
  simpa using h
theorem orderM_up (l : List Cm) (ps : List Int) : (orderM l ps).Pairwise fun p q => p.2 ≤ q.2 := order_up (kfP_lt ps) _ _
theorem waves_rise (l : List Cm) (i j : Nat) (hij : i < j) (hj : j < (wavesM l).length) (hw : Way (l.getD i cm0) (l.getD j cm0)) : (wavesM l).getD i 0 < (wavesM l).getD j 0 := by
  have hl : (wavesM l).length = l.length := waves_len l ft0
  have h := List.pairwise_iff_getElem.1 (waves_way l ft0) i j (by simp [waves_len]; omega) (by simp [waves_len]; omega) hij
  rw [getD_at _ _ (by omega : i < (wavesM l).length), getD_at _ _ hj]
  rw [getD_at _ _ (by omega : i < l.length), getD_at _ _ (by omega : j < l.length)] at hw
  simp only [List.getElem_zip] at h
  exact h hw
theorem way_apart {c d : Cm} (h : ¬ Way c d) : Apart d c := by
  unfold Way at h
  simp only [not_or, not_exists, not_and] at h
  exact ⟨fun e => h.1 e.symm, fun k hk hd => h.2.1 k (((sortM_says _).2 k).2 hk) (((sortM_says _).2 k).2 hd)⟩
theorem orderM_apart (l : List Cm) (ps : List Int) : ((orderM l ps).map (·.1)).Pairwise fun p q => q < p → Apart (l.getD p cm0) (l.getD q cm0) :=
  (order_way (kfP_lt ps) (ws := wavesM l) (top := topM (wavesM l)) (W := fun i j => Way (l.getD i cm0) (l.getD j cm0)) (waves_rise l)).imp fun h hlt => way_apart (h hlt)
theorem runM_order {l : List Cm} {ps : List Int} {a : Ap} (ha : ApRise a) :
    (runM l a ((orderM l ps).map (·.1))).1 = (runM l a (List.range l.length)).1 ∧ ∀ t, t ∈ (runM l a ((orderM l ps).map (·.1))).2 ↔ t ∈ (runM l a (List.range l.length)).2 :=
  run_sorted l _ _ a ha (orderM_perm l ps) List.pairwise_lt_range (orderM_apart l ps)
/-- What is at each place of a batch's run, by whatever picks. -/
theorem alike {l : List Cm} {ps : List Int} {a : Ap} (ha : ApRise a) :
    (runD l a (orderM l ps) 0 (List.replicate l.length dn0)).1 = (runM l a (List.range l.length)).1 ∧
    (runD l a (orderM l ps) 0 (List.replicate l.length dn0)).2.length = l.length ∧
    ∀ i, i < l.length → ∃ d, (runD l a (orderM l ps) 0 (List.replicate l.length dn0)).2[i]? = some d ∧ (i, d.r, d.fresh) ∈ (runM l a (List.range l.length)).2 ∧ (orderM l ps)[d.turn]? = some (i, d.wave) := by
  obtain ⟨h1, h2⟩ := runM_order (l := l) (ps := ps) ha
  refine ⟨by rw [runD_ap, h1], by rw [runD_len]; simp, fun i hi => ?_⟩
  have hp := orderM_perm l ps
  have hm : i ∈ (orderM l ps).map (·.1) := hp.mem_iff.2 (by simpa using hi)
  obtain ⟨p, hpm, rfl⟩ := List.mem_map.1 hm
  obtain ⟨k, hk, rfl⟩ := List.mem_iff_getElem.1 hpm
  obtain ⟨r, f, g1, g2⟩ := runD_says l (orderM l ps) a 0 (List.replicate l.length dn0) (hp.nodup_iff.2 List.nodup_range)
    (fun p hp' => by rw [List.length_replicate]; have := hp.mem_iff.1 (List.mem_map_of_mem (f := (·.1)) hp'); simpa using this) k hk
  refine ⟨_, g2, (h2 _).1 g1, ?_⟩
  simp only [Nat.zero_add]
  rw [List.getElem?_eq_getElem hk]
/-- One by one. -/
theorem run_range (l : List Cm) (a : Ap) (n : Nat) : (runM l a (List.range (n + 1))).1 = (apDo (runM l a (List.range n)).1 (l.getD n cm0)).1 ∧
    (runM l a (List.range (n + 1))).2 = (runM l a (List.range n)).2 ++ [(n, (apDo (runM l a (List.range n)).1 (l.getD n cm0)).2)] := by
  rw [List.range_succ, run_app]
  exact ⟨rfl, rfl⟩
/-- A batch that is executed again, by whatever picks, does nothing. -/
theorem twice {l : List Cm} {ps qs : List Int} {a : Ap} :
    (runM l (runM l a ((orderM l ps).map (·.1))).1 ((orderM l qs).map (·.1))).1 = (runM l a ((orderM l ps).map (·.1))).1 ∧
    ∀ t ∈ (runM l (runM l a ((orderM l ps).map (·.1))).1 ((orderM l qs).map (·.1))).2, t.2.2 = false :=
  run_again l _ _ fun p hp => run_tells l _ a p ((orderM_perm l ps).mem_iff.2 ((orderM_perm l qs).mem_iff.1 hp))
end Go.Proofs.YteeepelmkfiocaaGreatDoor.Kv
