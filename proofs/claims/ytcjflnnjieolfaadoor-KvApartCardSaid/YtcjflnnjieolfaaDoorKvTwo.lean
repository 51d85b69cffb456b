/- Two commands done in one statement, whose replies are boxed: what holds between the operations. -/
import Derived.Test.YtcjflnnjieolfaaDoorKvRq
import Derived.Test.YtcjflnnjieolfaaDoorKvW9
namespace Go.Proofs.YtcjflnnjieolfaaDoor.Kv
set_option linter.unusedSimpArgs false
set_option linter.unusedVariables false
set_option linter.unnecessarySimpa false
open Go.RowKit Go.Lib Go.Proofs.YtcjflnnjieolfaaDoor.Crc Go.Proofs.YtcjflnnjieolfaaDoor.Cm

section
variable {P : Program} {ops : Array Oper} {Q : Exit → Act → World → Prop} {md : Region.Mode} {S : World → Prop} {z : Nat}
/-- Three may come up. -/
theorem wpAnyZ_three (i j l : Nat) {oi oj ol : Oper} {fuel : Nat} {listed : Array Bool} {a : Act} {w : World} (hr : Region.ready md ops listed = [i, j, l]) (hi : ops[i]? = some oi) (hj : ops[j]? = some oj) (hl : ops[l]? = some ol)
    (hwi : Region.wanted oi (yielded ops a.tmps) = true) (hwj : Region.wanted oj (yielded ops a.tmps) = true) (hwl : Region.wanted ol (yielded ops a.tmps) = true)
    (h1 : ∀ K : Act → World → Prop, (∀ a' w', (i = z ∨ S w') → wpAnyZ P md ops Q S z fuel (listed.setIfInBounds i true) a' w' → K a' w') → oi.wp P a w K Q)
    (h2 : ∀ K : Act → World → Prop, (∀ a' w', (j = z ∨ S w') → wpAnyZ P md ops Q S z fuel (listed.setIfInBounds j true) a' w' → K a' w') → oj.wp P a w K Q)
    (h3 : ∀ K : Act → World → Prop, (∀ a' w', (l = z ∨ S w') → wpAnyZ P md ops Q S z fuel (listed.setIfInBounds l true) a' w' → K a' w') → ol.wp P a w K Q) : wpAnyZ P md ops Q S z (fuel + 1) listed a w := by
  refine ⟨fun h0 => (by rw [hr] at h0; cases h0), ?_⟩
  rw [hr]
  intro k hk
  have hk' : k = i ∨ k = j ∨ k = l := by simpa using hk
  rcases hk' with rfl | rfl | rfl
  · unfold wpOp
    rw [hi]
    simp only [hwi, if_true]
    exact .inl (h1 _ (fun a' w' h1 h2 => ⟨h1, h2⟩))
  · unfold wpOp
    rw [hj]
    simp only [hwj, if_true]
    exact .inl (h2 _ (fun a' w' h1 h2 => ⟨h1, h2⟩))
  · unfold wpOp
    rw [hl]
    simp only [hwl, if_true]
    exact .inl (h3 _ (fun a' w' h1 h2 => ⟨h1, h2⟩))
end
abbrev ZBox : Obj := .cells #[.int .u8 0, .string ⟨#[]⟩] TRp (0, 0)
/-- Two states, two boxes that may be there already. -/
structure TwoG (w0 : World) (U : List Nat) (tb tg ub ug : Nat) (m n : KM) (o6 o7 : Option Nat) (wx : World) : Prop where
  t : StIs wx tb tg m
  u : StIs wx ub ug n
  s : Upd U w0 wx
  b6 : ∀ R, o6 = some R → w0.heap.size ≤ R ∧ wx.heap[R]? = some ZBox
  b7 : ∀ R, o7 = some R → w0.heap.size ≤ R ∧ wx.heap[R]? = some ZBox
  ne : ∀ R R', o6 = some R → o7 = some R' → R ≠ R'
theorem TwoG.swap {w0 : World} {U : List Nat} {tb tg ub ug : Nat} {m n : KM} {o6 o7 : Option Nat} {wx : World} (h : TwoG w0 U tb tg ub ug m n o6 o7 wx) : TwoG w0 U ub ug tb tg n m o6 o7 wx := ⟨h.u, h.t, h.s, h.b6, h.b7, h.ne⟩
theorem TwoG.start {w0 wx : World} {U : List Nat} {tb tg ub ug : Nat} {m n : KM} (ht : StIs wx tb tg m) (hu : StIs wx ub ug n) (hs : Upd U w0 wx) : TwoG w0 U tb tg ub ug m n none none wx := ⟨ht, hu, hs, by simp, by simp, by simp⟩
theorem TwoG.alloc6 {w0 : World} {U : List Nat} {tb tg ub ug : Nat} {m n : KM} {o7 : Option Nat} {wx : World} (h : TwoG w0 U tb tg ub ug m n none o7 wx) : TwoG w0 U tb tg ub ug m n (some wx.heap.size) o7 (wx.alloc ZBox) := by
  have hu := (Upd.refl [] wx).alloc ZBox
  refine ⟨h.t.upd_nil hu, h.u.upd_nil hu, h.s.alloc _, fun R e => ?_, fun R e => ?_, fun R R' e e' => ?_⟩
  · cases e; exact ⟨h.s.size, blk_new wx _⟩
  · have := h.b7 R e; exact ⟨this.1, hu.get this.2 (by simp)⟩
  · cases e; have := blk_lt (h.b7 R' e').2; omega
theorem TwoG.alloc7 {w0 : World} {U : List Nat} {tb tg ub ug : Nat} {m n : KM} {o6 : Option Nat} {wx : World} (h : TwoG w0 U tb tg ub ug m n o6 none wx) : TwoG w0 U tb tg ub ug m n o6 (some wx.heap.size) (wx.alloc ZBox) := by
  have hu := (Upd.refl [] wx).alloc ZBox
  refine ⟨h.t.upd_nil hu, h.u.upd_nil hu, h.s.alloc _, fun R e => ?_, fun R e => ?_, fun R R' e e' => ?_⟩
  · have := h.b6 R e; exact ⟨this.1, hu.get this.2 (by simp)⟩
  · cases e; exact ⟨h.s.size, blk_new wx _⟩
  · cases e'; have := blk_lt (h.b6 R e).2; omega
/-- What the two states' blocks are, held against what was there first. -/
structure TwoOk (w w0 : World) (U : List Nat) (tb tg ub ug : Nat) : Prop where
  base : Upd [] w w0
  lo : ∀ k ∈ U, w.heap.size ≤ k ∧ k < w0.heap.size
  mt : tg ∈ U
  mu : ug ∈ U
  ne : tg ≠ ug ∧ ub ≠ tg ∧ tb ≠ ug
theorem TwoOk.swap {w w0 : World} {U : List Nat} {tb tg ub ug : Nat} (h : TwoOk w w0 U tb tg ub ug) : TwoOk w w0 U ub ug tb tg := ⟨h.base, h.lo, h.mu, h.mt, Ne.symm h.ne.1, h.ne.2.2, h.ne.2.1⟩
theorem TwoG.do_t {w w0 : World} {U : List Nat} {tb tg ub ug : Nat} {m n : KM} {o6 o7 : Option Nat} {wx : World} {v : Value} {c : Cm} (h : TwoG w0 U tb tg ub ug m n o6 o7 wx) (ok : TwoOk w w0 U tb tg ub ug) (he : EnvAt w) (hm : KvOk m) (hl : m.length ≤ 900000) (hc : CmAt w (fun k => k < w.heap.size) v c) :
    Calls Tryd.prog 16 #[.pointer (some ⟨tb, 0, none⟩), v] wx fun e w' => e = .returned (rpv (kvDo m c).2) ∧ TwoG w0 U tb tg ub ug (kvDo m c).1 n o6 o7 w' := by
  have hu : Upd [] w wx := ok.base.trans_new h.s (fun k hk => .inr (ok.lo k hk).1)
  obtain ⟨fit, ks, e, hks⟩ := hc
  refine (do_any wx (he.upd_nil hu) h.t hm ⟨fit, ks, e, hks.upd_nil hu⟩ hl).mono ?_
  rintro e w' ⟨rfl, h1, h2⟩
  have hU : Upd U wx w' := h2.mono (by simpa using ok.mt)
  refine ⟨rfl, h1, h.u.upd h2 (by simpa using ok.ne.2.1) (by simpa using Ne.symm ok.ne.1), h.s.trans hU, fun R e => ?_, fun R e => ?_, h.ne⟩
  · have := h.b6 R e
    exact ⟨this.1, h2.get this.2 (by have := (ok.lo tg ok.mt).2; simp; omega)⟩
  · have := h.b7 R e
    exact ⟨this.1, h2.get this.2 (by have := (ok.lo tg ok.mt).2; simp; omega)⟩
theorem TwoG.do_u {w w0 : World} {U : List Nat} {tb tg ub ug : Nat} {m n : KM} {o6 o7 : Option Nat} {wx : World} {v : Value} {c : Cm} (h : TwoG w0 U tb tg ub ug m n o6 o7 wx) (ok : TwoOk w w0 U tb tg ub ug) (he : EnvAt w) (hn : KvOk n) (hl : n.length ≤ 900000) (hc : CmAt w (fun k => k < w.heap.size) v c) :
    Calls Tryd.prog 16 #[.pointer (some ⟨ub, 0, none⟩), v] wx fun e w' => e = .returned (rpv (kvDo n c).2) ∧ TwoG w0 U tb tg ub ug m (kvDo n c).1 o6 o7 w' :=
  (h.swap.do_t ok.swap he hn hl hc).mono fun _ _ ⟨h1, h2⟩ => ⟨h1, h2.swap⟩
/-- Behind both. -/
def TwoR (w0 : World) (U : List Nat) (tb tg ub ug : Nat) (m n : KM) (r1 r2 : Rp) (s1 s2 : Value) (wx : World) : Prop :=
  ∃ R1 R2, s1 = .pointer (some ⟨R1, 0, none⟩) ∧ s2 = .pointer (some ⟨R2, 0, none⟩) ∧ w0.heap.size ≤ R1 ∧ w0.heap.size ≤ R2 ∧ wx.heap[R1]? = some (.cells #[.int .u8 (r1.code : Int), .string (strOf r1.text)] TRp (0, 0)) ∧ wx.heap[R2]? = some (.cells #[.int .u8 (r2.code : Int), .string (strOf r2.text)] TRp (0, 0)) ∧
    StIs wx tb tg m ∧ StIs wx ub ug n ∧ Upd U w0 wx
structure TwoB (w0 : World) (U : List Nat) (tb tg ub ug : Nat) : Prop where
  c1 : tb < w0.heap.size
  c2 : tg < w0.heap.size
  c3 : ub < w0.heap.size
  c4 : ug < w0.heap.size
theorem TwoG.fin {w0 : World} {U : List Nat} {tb tg ub ug R6 R7 : Nat} {m n : KM} {r1 r2 : Rp} {wx : World} (h : TwoG w0 U tb tg ub ug m n (some R6) (some R7) wx) (ok : TwoB w0 U tb tg ub ug) :
    TwoR w0 U tb tg ub ug m n r1 r2 (.pointer (some ⟨R6, 0, none⟩)) (.pointer (some ⟨R7, 0, none⟩)) ((((wx.setCell ⟨R6, 0, none⟩ (.int .u8 (r1.code : Int))).setCell ⟨R6, 1, none⟩ (.string (strOf r1.text))).setCell ⟨R7, 0, none⟩ (.int .u8 (r2.code : Int))).setCell ⟨R7, 1, none⟩ (.string (strOf r2.text))) := by
  have h6 := h.b6 R6 rfl; have h7 := h.b7 R7 rfl; have hne := h.ne R6 R7 rfl rfl
  have u1 := upd2 wx R6 (.int .u8 (r1.code : Int)) (.string (strOf r1.text))
  have s1 := stored2 (v0 := .int .u8 (r1.code : Int)) (v1 := .string (strOf r1.text)) h6.2
  have g7 := u1.get h7.2 (by simp; omega)
  generalize (wx.setCell ⟨R6, 0, none⟩ (.int .u8 (r1.code : Int))).setCell ⟨R6, 1, none⟩ (.string (strOf r1.text)) = w1 at *
  have u2 := upd2 w1 R7 (.int .u8 (r2.code : Int)) (.string (strOf r2.text))
  have s2 := stored2 (v0 := .int .u8 (r2.code : Int)) (v1 := .string (strOf r2.text)) g7
  have g6 := u2.get s1 (by simp; omega)
  have q := ok
  obtain ⟨q1, q2, q3, q4⟩ := q
  exact ⟨R6, R7, rfl, rfl, h6.1, h7.1, g6, s2, (h.t.upd u1 (by simp; omega) (by simp; omega)).upd u2 (by simp; omega) (by simp; omega), (h.u.upd u1 (by simp; omega) (by simp; omega)).upd u2 (by simp; omega) (by simp; omega),
    (h.s.trans_new u1 (fun k hk => .inr (by simp at hk; omega))).trans_new u2 (fun k hk => .inr (by simp at hk; omega))⟩
/-- The first store's facts, and the second's. -/
theorem TwoG.facts {w0 : World} {U : List Nat} {tb tg ub ug R6 R7 : Nat} {m n : KM} {wx : World} (h : TwoG w0 U tb tg ub ug m n (some R6) (some R7) wx) (r1 : Rp) :
    wx.heap[R6]? = some ZBox ∧ ((wx.setCell ⟨R6, 0, none⟩ (.int .u8 (r1.code : Int))).setCell ⟨R6, 1, none⟩ (.string (strOf r1.text))).heap[R7]? = some ZBox ∧ Upd U w0 ((wx.setCell ⟨R6, 0, none⟩ (.int .u8 (r1.code : Int))).setCell ⟨R6, 1, none⟩ (.string (strOf r1.text))) ∧
    ∀ r2 : Rp, Upd U w0 ((((wx.setCell ⟨R6, 0, none⟩ (.int .u8 (r1.code : Int))).setCell ⟨R6, 1, none⟩ (.string (strOf r1.text))).setCell ⟨R7, 0, none⟩ (.int .u8 (r2.code : Int))).setCell ⟨R7, 1, none⟩ (.string (strOf r2.text))) := by
  have h6 := h.b6 R6 rfl; have h7 := h.b7 R7 rfl; have hne := h.ne R6 R7 rfl rfl
  have u1 := upd2 wx R6 (.int .u8 (r1.code : Int)) (.string (strOf r1.text))
  refine ⟨h6.2, u1.get h7.2 (by simp; omega), h.s.trans_new u1 (fun k hk => .inr (by simp at hk; omega)), fun r2 => ?_⟩
  exact (h.s.trans_new u1 (fun k hk => .inr (by simp at hk; omega))).trans_new (upd2 _ R7 _ _) (fun k hk => .inr (by simp at hk; omega))
end Go.Proofs.YtcjflnnjieolfaaDoor.Kv
