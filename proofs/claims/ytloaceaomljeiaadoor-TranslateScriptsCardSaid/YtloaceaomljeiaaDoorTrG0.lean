/- Rows for translate.Script. -/
import Derived.Test.YtloaceaomljeiaaDoorTrD
import Derived.Test.YtloaceaomljeiaaDoorTrF
namespace Go.Proofs.YtloaceaomljeiaaDoor.Tr
open Go.RowKit Go.Lib Go.Proofs.YtloaceaomljeiaaDoor.Crc Go.Proofs.YtloaceaomljeiaaDoor.Cm Go.Proofs.YtloaceaomljeiaaDoor.Var

abbrev TEn : TypeId := 45
/-- Beside two rows. -/
def beside2 (base : Nat) (w : World) (u v : Value) (k : Nat) : Prop := base ≤ k ∧ k < w.heap.size ∧ u.ownBlock ≠ some k ∧ v.ownBlock ≠ some k
section
variable {X : Type} {K : Kind X} {w w' : World} {base : Nat} {ty : TypeId} {v v' : Value} {l k : List X} {T T' : Nat → Prop} {S : List Nat}
theorem own_keep (h : Own w base ty K.z (K.holds w T) v l) (hu : Upd S w w') (hv : ∀ k, v.ownBlock = some k → k ∉ S) (hS : ∀ k ∈ S, ¬ T k) (hT : ∀ k, T k → T' k) : Own w' base ty K.z (K.holds w' T') v l :=
  Own.upd h hu hv fun _ _ _ h => K.mono (K.upd h hu hS) hT
theorem own_mores {css kss : List (List Value)} (h1 : Each (K.holds w T) l css) (hk : Each (K.holds w T) k kss) {n : Nat} (ho : w'.ownsRow base ty K.z v' n (css.flatten ++ kss.flatten)) (hn : n = l.length + k.length) (hu : Upd S w w') (hS : ∀ k ∈ S, ¬ T k) (hT : ∀ k, T k → T' k) : Own w' base ty K.z (K.holds w' T') v' (l ++ k) :=
  Own.mores (h1.mono fun _ _ _ h => K.mono (K.upd h hu hS) hT) (fun cs hc => by obtain ⟨x, -, h⟩ := h1.mem hc; exact ⟨K.len h, K.one h⟩) (hk.mono fun _ _ _ h => K.mono (K.upd h hu hS) hT) (fun cs hc => by obtain ⟨x, -, h⟩ := hk.mem hc; exact K.len h)
    (fun u hu => by obtain ⟨cs, hc, hu'⟩ := List.mem_flatten.1 hu; obtain ⟨x, -, h⟩ := hk.mem hc; exact K.one h u hu') hn ho
theorem own_open (h : Own w base ty K.z (K.holds w T) v l) : ∃ css, Each (K.holds w T) l css ∧ (∀ cs ∈ css, cs.length = K.z) ∧ (∀ u ∈ css.flatten, u.oneCell' = true) ∧ css.length = l.length ∧ w.ownsRow base ty K.z v l.length css.flatten := by
  obtain ⟨css, h1, h2, h3⟩ := h
  exact ⟨css, h1, fun cs hc => (h2 cs hc).1, fun u hu => by obtain ⟨cs, hc, hu'⟩ := List.mem_flatten.1 hu; exact (h2 cs hc).2 u hu', h1.len, h3⟩
theorem Each.erase {P : X → List Value → Prop} {css : List (List Value)} (h : Each P l css) (i : Nat) : Each P (l.eraseIdx i) (css.eraseIdx i) := by
  rw [List.eraseIdx_eq_take_drop_succ, List.eraseIdx_eq_take_drop_succ]
  exact (h.take i).append (h.drop (i + 1))
end
theorem beside2_swap {base : Nat} {w : World} {u v : Value} {k : Nat} (h : beside2 base w u v k) : beside2 base w v u k := ⟨h.1, h.2.1, h.2.2.2, h.2.2.1⟩
theorem beside2_le {base : Nat} {w w' : World} {u v : Value} (hz : w.heap.size ≤ w'.heap.size) : ∀ k, beside2 base w u v k → beside2 base w' u v k := fun k h => ⟨h.1, by have := h.2.1; omega, h.2.2⟩
/-- One of two rows has more. -/
theorem pair_push {X Y : Type} {K : Kind X} {J : Kind Y} {w w' : World} {base n : Nat} {tx ty : TypeId} {so so' sw : Value} {l k : List X} {lw : List Y} {css kss : List (List Value)} (h1 : Each (K.holds w (beside2 base w so sw)) l css) (hk : Each (K.holds w (beside2 base w so sw)) k kss)
    (ho : w'.ownsRow base tx K.z so' n (css.flatten ++ kss.flatten)) (hn : n = l.length + k.length) (hu : Upd so.ownBlock.toList w w') (hg : ∀ g, so'.ownBlock = some g → so.ownBlock = some g ∨ w.heap.size ≤ g)
    (hne : ∀ g, so.ownBlock = some g → sw.ownBlock ≠ some g) (hw : Own w base ty J.z (J.holds w (beside2 base w so sw)) sw lw) :
    Own w' base tx K.z (K.holds w' (beside2 base w' so' sw)) so' (l ++ k) ∧ Own w' base ty J.z (J.holds w' (beside2 base w' so' sw)) sw lw ∧ ∀ g, so'.ownBlock = some g → sw.ownBlock ≠ some g := by
  have hwl := Own.lt hw
  have hT : ∀ g, beside2 base w so sw g → beside2 base w' so' sw g := fun g h => ⟨h.1, by have := h.2.1; have := hu.size; omega, fun e => by
    rcases hg g e with h5 | h5
    · exact h.2.2.1 h5
    · have := h.2.1; omega, h.2.2.2⟩
  have hS : ∀ g ∈ so.ownBlock.toList, ¬ beside2 base w so sw g := fun g hm h => h.2.2.1 (by simpa using hm)
  refine ⟨own_mores h1 hk ho hn hu hS hT, own_keep hw hu (fun g hk hm => hne g (by simpa using hm) hk) hS hT, fun g hg' hs => ?_⟩
  rcases hg g hg' with h5 | h5
  · exact hne g h5 hs
  · have := (hwl g hs).2; omega
theorem own_mono {X : Type} {K : Kind X} {w : World} {base : Nat} {ty : TypeId} {v : Value} {l : List X} {T T' : Nat → Prop} (h : Own w base ty K.z (K.holds w T) v l) (hT : ∀ k, T k → T' k) : Own w base ty K.z (K.holds w T') v l :=
  own_keep h (Upd.refl [] w) (by simp) (by simp) hT
theorem en_get {w : World} {T : Nat → Prop} {v : Value} {l : List En} (h : enK.row w T v l) : ∃ (xo : Option Addr) (c : Nat), v = .slice xo l.length c ∧ l.length ≤ c ∧ c ≤ maxLen ∧
    ∀ i e, l[i]? = some e → ∃ b off torn pick ka kc, xo = some ⟨b, off, none⟩ ∧ b < w.heap.size ∧ e.cmd.Fits ∧ Strs w T (.slice ka e.cmd.keys.length kc) e.cmd.keys ∧
      ∀ j u, (enc e torn pick (.slice ka e.cmd.keys.length kc))[j]? = some u → w.cell? ⟨b, off + i * 12 + j, none⟩ = some u := by
  obtain ⟨xo, c, rfl, h1, h2, hg⟩ := Row.get enK.hz h
  refine ⟨xo, c, rfl, h1, h2, fun i e hi => ?_⟩
  obtain ⟨b, off, cs, rfl, hb, hT, ⟨fit, torn, pick, ks, rfl, hks⟩, -, hcell⟩ := hg i e hi
  obtain ⟨ka, kc, rfl, -, -, -⟩ := hks.get
  exact ⟨b, off, torn, pick, ka, kc, rfl, hb, fit, hks, fun j u hj => hcell j u hj⟩
theorem subsM_more {l : List En} {k : Nat} {e : En} (h : l[k]? = some e) : subsM (l.take (k + 1)) = subsM (l.take k) ++ (if e.kind = 1 ∧ Cm.Good e.cmd then [e.cmd] else []) := by
  rw [take_snoc h]
  unfold subsM
  rw [List.filter_append, List.map_append]
  congr 1
  by_cases h1 : e.kind = 1 <;> by_cases h2 : Cm.Good e.cmd <;> simp [h1, h2]
theorem subsM_len (l : List En) : (subsM l).length ≤ l.length := by
  unfold subsM
  rw [List.length_map]
  exact List.length_filter_le _ _
theorem en_src {w : World} {b : Nat} {e : En} {torn pick : Int} {ks : Value} {t : TypeId} (h : w.heap[b]? = some (.cells (enc e torn pick ks).toArray t (0, 0))) (h1 : ks.oneCell' = true) : SrcAt w (some ⟨b, 0, none⟩) 1 1 (enc e torn pick ks) 12 := by
  refine ⟨rfl, ?_, by simp, fun a e1 j u hj => ?_⟩
  · intro u hu
    simp only [enc, strV, List.mem_cons, List.not_mem_nil, or_false] at hu
    rcases hu with rfl | rfl | rfl | rfl | rfl | rfl | rfl | rfl | rfl | rfl | rfl | rfl <;> first | rfl | exact h1
  · cases e1
    rw [add_plain]
    simp only [World.cell?, h]
    simpa using hj
theorem own_row {X : Type} {K : Kind X} {w : World} {base : Nat} {ty : TypeId} {u u' v : Value} {l : List X} (h : Own w base ty K.z (K.holds w (beside2 base w u u')) v l) : K.row w (since base w) v l := by
  have hlt := Own.lt h
  exact (Own.row h).mono (fun k hk => hlt k hk) fun _ _ _ h1 => K.mono h1 fun k hk => ⟨hk.1, hk.2.1⟩
theorem take_holds (w : World) (T : Nat → Prop) : enK.holds w T takeE tk := ⟨zero_fits, 0, 0, _, rfl, Strs.nil w T⟩
theorem ob_len (a : Option Addr) (n m c : Nat) : (Value.slice a n c).ownBlock = (Value.slice a m c).ownBlock := by cases a <;> rfl
/-- A row lies not among what lies from s to z. -/
def Away (s z : Nat) (v : Value) : Prop := ∀ g, v.ownBlock = some g → g < s ∨ z ≤ g
theorem Away.push {s z z' : Nat} {v v' : Value} (h : Away s z v) (hg : ∀ g, v'.ownBlock = some g → v.ownBlock = some g ∨ z' ≤ g) (hz : z ≤ z') : Away s z v' := fun g hv => by
  rcases hg g hv with h1 | h1
  · exact h g h1
  · exact .inr (by omega)
theorem own_erase {X : Type} {K : Kind X} {w w' : World} {base i : Nat} {ty : TypeId} {v' : Value} {l : List X} {T T' : Nat → Prop} {S : List Nat} {css : List (List Value)} (h1 : Each (K.holds w T) l css) (hi : i < l.length) (ho : w'.ownsRow base ty K.z v' (l.length - 1) (css.eraseIdx i).flatten) (hu : Upd S w w') (hS : ∀ k ∈ S, ¬ T k) (hT : ∀ k, T k → T' k) : Own w' base ty K.z (K.holds w' T') v' (l.eraseIdx i) :=
  have h2 : Each (K.holds w' T') (l.eraseIdx i) (css.eraseIdx i) := (Each.erase h1 i).mono fun _ _ _ h => K.mono (K.upd h hu hS) hT
  ⟨css.eraseIdx i, h2, fun cs hc => by obtain ⟨x, -, h⟩ := h2.mem hc; exact ⟨K.len h, K.one h⟩, by rw [List.length_eraseIdx, if_pos hi]; exact ho⟩
theorem takes_each (w : World) (T : Nat → Prop) : ∀ c, Each (enK.holds w T) (List.replicate c takeE) (List.replicate c tk)
  | 0 => .nil
  | c + 1 => .cons (take_holds w T) (takes_each w T c)
theorem half_src {w : World} {G c : Nat} (h : Half w G c c) : SrcAt w (some ⟨G, 0, none⟩) c c (List.replicate c tk).flatten 12 := by
  obtain ⟨-, cur, hg, hc⟩ := h
  simp only [Nat.sub_self, List.replicate_zero, List.flatten_nil, List.append_nil] at hc
  refine ⟨by rw [rep_len, tk_len], tk_one c, by simp, fun a e j u hj => ?_⟩
  cases e
  rw [add_plain]
  rw [← hc] at hj
  simp only [World.cell?, hg]
  simpa using hj
theorem half_upd {w w' : World} {G c n : Nat} {S : List Nat} (h : Half w G c n) (hu : Upd S w w') (hS : G ∉ S) : Half w' G c n := by
  obtain ⟨h1, cur, hg, hc⟩ := h
  exact ⟨h1, cur, hu.get hg hS, hc⟩
theorem elects_some {m k : Nat} {ws cs : List Cm} {c : Cm} (h : placeM ws c = some k) : electsM m ws (c :: cs) = electE k :: (List.replicate (5 * m) takeE ++ electsM m (ws.eraseIdx k) cs) := by
  rw [electsM, h]
theorem elects_none {m : Nat} {ws cs : List Cm} {c : Cm} (h : placeM ws c = none) : electsM m ws (c :: cs) = [] := by
  rw [electsM, h]
theorem place_lt {ws : List Cm} {c : Cm} {k : Nat} (h : placeM ws c = some k) : k < ws.length := by
  unfold placeM at h
  exact (List.findIdx?_eq_some_iff_getElem.1 h).1
end Go.Proofs.YtloaceaomljeiaaDoor.Tr
