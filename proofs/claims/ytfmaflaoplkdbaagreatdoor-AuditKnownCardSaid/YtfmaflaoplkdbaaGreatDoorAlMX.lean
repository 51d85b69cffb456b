/- AlM, AlX in one text. -/
import Derived.Test.YtfmaflaoplkdbaaGreatDoorTrJ
import Derived.Test.YtfmaflaoplkdbaaGreatDoorPureAll
import Derived.Test.YtfmaflaoplkdbaaGreatDoorAuKH
import Derived.Test.YtfmaflaoplkdbaaGreatDoorAuI
set_option linter.unusedSimpArgs false
set_option linter.unusedVariables false
set_option linter.unnecessarySimpa false
namespace Go.Proofs.YtfmaflaoplkdbaaGreatDoor.Au
open Go.RowKit Go.Proofs.YtfmaflaoplkdbaaGreatDoor.Crc Go.Proofs.YtfmaflaoplkdbaaGreatDoor.Cm Go.Proofs.YtfmaflaoplkdbaaGreatDoor.Tr Go.Proofs.YtfmaflaoplkdbaaGreatDoor.Kv

/-- A log, as far as it goes. -/
def logFrom (L : List Sl) : Nat → Nat → List Sl
  | 0, _ => []
  | f + 1, s => match findM L s with
    | none => []
    | some x => x :: logFrom L f (s + 1)
theorem logFrom_to (L : List Sl) : ∀ (f s i : Nat) (x : Sl), (logFrom L f s)[i]? = some x → findM L (s + i) = some x
  | 0, s, i, x, h => by simp [logFrom] at h
  | f + 1, s, i, x, h => by
    unfold logFrom at h
    cases hf : findM L s with
    | none => rw [hf] at h; simp at h
    | some y =>
      rw [hf] at h
      cases i with
      | zero => simp at h; subst h; exact hf
      | succ i =>
        have := logFrom_to L f (s + 1) i x (by simpa using h)
        rw [← this]
        congr 1
        omega
theorem logFrom_end (L : List Sl) : ∀ (f s : Nat), (logFrom L f s).length < f → findM L (s + (logFrom L f s).length) = none
  | 0, s, h => by simp at h
  | f + 1, s, h => by
    unfold logFrom at h ⊢
    cases hf : findM L s with
    | none => exact hf
    | some y =>
      rw [hf] at h
      simp only [List.length_cons] at h ⊢
      have := logFrom_end L f (s + 1) (by omega)
      rw [← this]
      congr 1
      omega
def logC (L : List Sl) : List Sl := logFrom L (L.length + 1) 1
theorem logC_is (L : List Sl) : LogIs L (logC L) := by
  have h1 : LogTo L (logC L) := fun i x h => by
    have := logFrom_to L _ 1 i x h
    rw [← this]
    congr 1
    omega
  refine ⟨h1, ?_⟩
  have h2 := h1.le
  have h3 := logFrom_end L (L.length + 1) 1 (by unfold logC at h2; omega)
  rw [← h3]
  congr 1
  unfold logC
  omega
/-- A client's put. -/
def putA (c : Nat) : Cm := ⟨c, 1, 1, [[107]], [], [118], 0⟩
theorem putA_good (c : Nat) (h : c ≠ 0) : Cm.Good (putA c) := by
  refine ⟨h, ?_⟩
  simp [putA, lo, Cm.hi]
theorem putA_fits (c : Nat) (h : c < 4294967296) : (putA c).Fits := by
  refine ⟨h, ?_⟩
  simp [putA]
def xA : List UInt8 := batchM [putA 1]
def yA : List UInt8 := batchM [putA 2]
def xyA : List UInt8 := batchM [putA 1, putA 2]
theorem xA_len : xA.length = 11 ∧ yA.length = 11 ∧ xyA.length = 21 := ⟨by kernel_rfl, by kernel_rfl, by kernel_rfl⟩
/-- Findings of a history. -/
def foundM (l : List En) (told : List To) : List (Nat × Nat) := auditM (logC (allM (told.map To.td))) l told told.length
theorem found_is {l : List En} {told : List To} {out : List Sl} (h : LogIs (allM (told.map To.td)) out) : auditM out l told told.length = foundM l told := by
  rw [h.unique (logC_is _)]
  rfl
def ansA (c code : Nat) (text : List UInt8) : An := ⟨c, 1, code, text⟩
def l0 : List En := [⟨1, 0, 0, putA 1⟩]
def good0 : List To := [⟨0, [ansA 1 0 []], [(1, xA)]⟩]
def bad0 : List To := [⟨0, [ansA 1 0 [120]], [(1, xA)]⟩, ⟨0, [], [(1, yA), (3, xA)]⟩]
theorem good0_found : foundM l0 good0 = [] := by kernel_rfl
theorem bad0_found : foundM l0 bad0 = [(0, 5), (1, 1), (1, 3), (1, 4)] := by kernel_rfl
end Go.Proofs.YtfmaflaoplkdbaaGreatDoor.Au
namespace Go.Proofs.YtfmaflaoplkdbaaGreatDoor.Au
open Go.RowKit Go.Proofs.YtfmaflaoplkdbaaGreatDoor.Crc Go.Proofs.YtfmaflaoplkdbaaGreatDoor.Cm Go.Proofs.YtfmaflaoplkdbaaGreatDoor.Tr Go.Proofs.YtfmaflaoplkdbaaGreatDoor.Kv
set_option linter.unusedSimpArgs false
set_option linter.unusedVariables false

theorem src_blk {w : World} {b n z : Nat} {cs : List Value} {t : TypeId} (h : w.heap[b]? = some (.cells cs.toArray t (0, 0))) (hn : cs.length = n * z) (h1 : ∀ u ∈ cs, u.oneCell' = true) : SrcAt w (some ⟨b, 0, none⟩) n n cs z := by
  refine ⟨hn, h1, by simp, fun a e j u hj => ?_⟩
  cases e
  have h5 := blk_cell (i := j) h (by simpa using hj)
  by_cases h0 : j = 0
  · subst h0; simpa [Addr.add] using h5
  · simpa [Addr.add, h0] using h5
theorem row_blk {X : Type} {K : Kind X} {w : World} {T : Nat → Prop} {b : Nat} {l : List X} {css : List (List Value)} {t : TypeId} (h : Each (K.holds w T) l css) (hg : w.heap[b]? = some (.cells css.flatten.toArray t (0, 0))) (hT : T b) (hm : l.length ≤ maxLen) : K.row w T (.slice (some ⟨b, 0, none⟩) l.length l.length) l :=
  have hz : ∀ cs ∈ css, cs.length = K.z := fun cs hc => by obtain ⟨x, -, h2⟩ := h.mem hc; exact K.len h2
  ⟨_, _, css, rfl, h, hz, src_blk hg (by rw [flat_len hz, h.len]) (fun u hu => by
    obtain ⟨cs, hc, hu'⟩ := List.mem_flatten.1 hu
    obtain ⟨x, -, h2⟩ := h.mem hc
    exact K.one h2 u hu'), Nat.le_refl _, hm, fun a ha _ => by cases ha; exact hT⟩
/-- Below a world's end. -/
abbrev Od (w : World) (k : Nat) : Prop := k < w.heap.size
section
variable {X : Type} {K : Kind X} {w w' : World} {v : Value}
theorem Strs.grow {l : List (List UInt8)} (h : Strs w (Od w) v l) (hu : Upd [] w w') : Strs w' (Od w') v l := (h.upd_nil hu).mono fun k hk => Nat.lt_of_lt_of_le hk hu.size
theorem Bts.grow {bs : List UInt8} (h : Bts w (Od w) v bs) (hu : Upd [] w w') : Bts w' (Od w') v bs := by
  obtain ⟨xo, m, cp, rfl, h1, h2, h3, h4⟩ := h
  exact ⟨xo, m, cp, rfl, src_upd h1 hu (by simp), h2, h3, fun a ha hm => Nat.lt_of_lt_of_le (h4 a ha hm) hu.size⟩
theorem Bts.old {n : Nat} {bs : List UInt8} (h : Bts w (since n w) v bs) : Bts w (Od w) v bs := by
  obtain ⟨xo, m, cp, rfl, h1, h2, h3, h4⟩ := h
  exact ⟨xo, m, cp, rfl, h1, h2, h3, fun a ha hm => (h4 a ha hm).2⟩
theorem Kind.grow {l : List X} (h : K.row w (Od w) v l) (hu : Upd [] w w') : K.row w' (Od w') v l := K.row_mono (K.row_upd_nil h hu) fun k hk => Nat.lt_of_lt_of_le hk hu.size
theorem Kind.lay {l : List X} {css : List (List Value)} {t : TypeId} (h : Each (K.holds (w.alloc (.cells css.flatten.toArray t)) (Od (w.alloc (.cells css.flatten.toArray t)))) l css) (hm : l.length ≤ 1000) : K.row (w.alloc (.cells css.flatten.toArray t)) (Od (w.alloc (.cells css.flatten.toArray t))) (.slice (some ⟨w.heap.size, 0, none⟩) l.length l.length) l :=
  row_blk h (blk_new w _) (by simp) (by unfold maxLen; omega)
end
/-- A put's cells. -/
def pcA (c b : Nat) : List Value := [.int .u32 (c : Int), .int .u32 1, .int .u8 1, .slice (some ⟨b, 0, none⟩) 1 1, .string (strOf []), .string (strOf [118]), .int .i64 0]
theorem pc_holds {w : World} {T : Nat → Prop} {b c : Nat} (hc : c < 4294967296) (hs : Strs w T (.slice (some ⟨b, 0, none⟩) 1 1) [[107]]) : cmK.holds w T (putA c) (pcA c b) :=
  ⟨putA_fits c hc, _, rfl, hs⟩
theorem puts_good (l : List Nat) (h : ∀ c ∈ l, c ≠ 0) : ∀ x ∈ l.map putA, Cm.Good x ∧ x.n = 0 := fun x hx => by
  obtain ⟨c, hc, rfl⟩ := List.mem_map.1 hx
  exact ⟨putA_good c (h c hc), rfl⟩
set_option maxRecDepth 100000 in
set_option maxHeartbeats 2000000 in
theorem put26_any (c : Nat) (x : Int) (hx : x = (c : Int)) (w : World) : Calls Tryz.prog 8 #[.int .u32 x] w fun e w' => (∃ b, e = .returned (.agg #[.int .u32 (c : Int), .int .u32 1, .int .u8 1, .slice (some ⟨b, 0, none⟩) 1 1, .string (strOf []), .string (strOf [118]), .int .i64 0]) ∧ Strs w' (Od w') (.slice (some ⟨b, 0, none⟩) 1 1) [[107]]) ∧ Upd [] w w' := by
  subst hx
  go_enter Tryz.func8, Tryz.ntmps8
  go_wp2_with fail
  refine ret_cm1 (blk_alloc (blk_new w _) _) rfl rfl rfl ⟨⟨w.heap.size + 1, rfl, ?_⟩, ((Upd.refl [] w).alloc _).alloc _⟩
  refine ⟨_, _, rfl, src_blk (t := 9) (cs := [.string ⟨#[107]⟩]) ?_ rfl (by simp [Value.oneCell']), Nat.le_refl _, by simp [maxLen], fun a ha _ => by cases ha; simp [Od]⟩
  have := blk_new (w.alloc (.cells #[.int .u32 (c : Int), .int .u32 1, .int .u8 1, .slice (some ⟨w.heap.size + 1, 0, none⟩) 1 1, .string ⟨#[]⟩, .string ⟨#[118]⟩, .int .i64 0] 25)) (.cells #[.string ⟨#[107]⟩] 9)
  rw [World.size_alloc] at this
  exact this
/-- Cells of what was told. -/
def dnc (s : Nat) (v : Value) : List Value := [.int .u64 (s : Int), v]
def toc (e : Int) (va vd : Value) : List Value := [.int .i64 0, .int .i64 e, .int .i64 0, va, vd]
theorem dn_holds {w : World} {T : Nat → Prop} {s : Nat} {v : Value} {bs : List UInt8} (hs : s < 18446744073709551616) (h : Bts w T v bs) : dnK.holds w T (s, bs) (dnc s v) := ⟨hs, v, rfl, h⟩
theorem an_holds {w : World} {T : Nat → Prop} {c code : Nat} {text : List UInt8} (h : text.length ≤ 4611686018427387904) : anK.holds w T (ansA c code text) (anc (ansA c code text)) := ⟨h, rfl⟩
theorem to_holds {w : World} {T : Nat → Prop} {t : To} {va vd : Value} (ha : anK.row w T va t.ans) (hd : dnK.row w T vd t.done) : toK.holds w T t (toc t.e va vd) := ⟨0, 0, va, vd, rfl, ha, hd⟩
section
variable {X : Type} {K : Kind X} {w w' : World} {v : Value}
theorem Each.grow {l : List X} {css : List (List Value)} (h : Each (K.holds w (Od w)) l css) (hu : Upd [] w w') : Each (K.holds w' (Od w')) l css := h.mono fun x cs _ hx => K.mono (K.upd hx hu (by simp)) fun k hk => Nat.lt_of_lt_of_le hk hu.size
theorem Kind.put {l : List X} {css : List (List Value)} {t : TypeId} {cs : Array Value} (h : Each (K.holds w (Od w)) l css) (hc : css.flatten.toArray = cs) (hm : l.length ≤ 1000) : K.row (w.alloc (.cells cs t)) (Od (w.alloc (.cells cs t))) (.slice (some ⟨w.heap.size, 0, none⟩) l.length l.length) l := by
  subst hc
  exact Kind.lay (Each.grow h ((Upd.refl [] w).alloc _)) hm
end
/-- What wakes says. -/
def WakesSays : Prop := ∀ w : World, EnvAt w → Calls Tryz.prog 12 #[] w fun e w' => e = .returned (.bool true) ∧ Upd [] w w'
abbrev fnP : (Nat × Nat) → List Value → Prop := fun f cs => cs = [.int .i64 (f.1 : Int), .int .u8 (f.2 : Int)]
theorem fn_at {w : World} {T : Nat → Prop} {v : Value} {F : List (Nat × Nat)} (h : Row w T 2 fnP v F) : ∃ (xo : Option Addr) (c : Nat), v = .slice xo F.length c ∧ F.length ≤ c ∧ c ≤ maxLen ∧ ∀ i f, F[i]? = some f → ∃ b off, xo = some ⟨b, off, none⟩ ∧ w.cell? ⟨b, off + i * 2, none⟩ = some (.int .i64 (f.1 : Int)) ∧ w.cell? ⟨b, off + i * 2 + 1, none⟩ = some (.int .u8 (f.2 : Int)) := by
  obtain ⟨xo, c, rfl, h1, h2, hg⟩ := Row.get (by decide) h
  refine ⟨xo, c, rfl, h1, h2, fun i f hi => ?_⟩
  obtain ⟨b, off, cs, h3, -, -, rfl, -, h4⟩ := hg i f hi
  exact ⟨b, off, h3, h4 0 _ rfl, h4 1 _ rfl⟩
end Go.Proofs.YtfmaflaoplkdbaaGreatDoor.Au
