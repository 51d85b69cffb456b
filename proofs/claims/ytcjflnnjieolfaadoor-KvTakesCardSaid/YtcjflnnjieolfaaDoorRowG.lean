/- Rows of things in memory, each of some cells: as they are read, and as they are built. Over any program. -/
import Derived.Test.YtcjflnnjieolfaaDoorGen
import Derived.Test.YtcjflnnjieolfaaDoorSlCut
namespace Go.Proofs.YtcjflnnjieolfaaDoor
open Go.RowKit Go.Proofs.YtcjflnnjieolfaaDoor.Crc

section
variable {X : Type} {P Q : X → List Value → Prop} {l a b : List X} {css kss bss : List (List Value)} {x : X} {i z : Nat}
/-- Each thing has its cells. -/
inductive Each {X : Type} (P : X → List Value → Prop) : List X → List (List Value) → Prop
  | nil : Each P [] []
  | cons {x : X} {cs : List Value} {l : List X} {css : List (List Value)} : P x cs → Each P l css → Each P (x :: l) (cs :: css)
theorem Each.len (h : Each P l css) : css.length = l.length := by
  induction h with
  | nil => rfl
  | cons _ _ ih => simp [ih]
theorem Each.append (h : Each P a kss) (k : Each P b bss) : Each P (a ++ b) (kss ++ bss) := by
  induction h with
  | nil => exact k
  | cons h1 _ ih => exact .cons h1 ih
theorem Each.mono (h : Each P l css) (hPQ : ∀ x cs, x ∈ l → P x cs → Q x cs) : Each Q l css := by
  induction h with
  | nil => exact .nil
  | cons h1 _ ih => exact .cons (hPQ _ _ (by simp) h1) (ih fun x cs hx => hPQ x cs (by simp [hx]))
theorem Each.get (h : Each P l css) (hi : l[i]? = some x) : ∃ cs, css[i]? = some cs ∧ P x cs := by
  induction h generalizing i with
  | nil => simp at hi
  | cons h1 _ ih =>
    cases i with
    | zero => simp at hi; subst hi; exact ⟨_, rfl, h1⟩
    | succ i => exact ih (by simpa using hi)
theorem Each.mem {cs : List Value} (h : Each P l css) (hc : cs ∈ css) : ∃ x, x ∈ l ∧ P x cs := by
  induction h with
  | nil => cases hc
  | cons h1 _ ih =>
    rcases List.mem_cons.1 hc with rfl | hc
    · exact ⟨_, by simp, h1⟩
    · obtain ⟨x, h2, h3⟩ := ih hc
      exact ⟨x, by simp [h2], h3⟩
theorem Each.drop (h : Each P l css) (k : Nat) : Each P (l.drop k) (css.drop k) := by
  induction h generalizing k with
  | nil => simpa using .nil
  | cons h1 h2 ih =>
    cases k with
    | zero => exact .cons h1 h2
    | succ k => simpa using ih k
theorem Each.take (h : Each P l css) (k : Nat) : Each P (l.take k) (css.take k) := by
  induction h generalizing k with
  | nil => simpa using .nil
  | cons h1 h2 ih =>
    cases k with
    | zero => simpa using .nil
    | succ k => simpa using .cons h1 (ih k)
theorem flat_len (hz : ∀ cs ∈ css, cs.length = z) : css.flatten.length = css.length * z := by
  induction css with
  | nil => simp
  | cons c css ih => rw [List.flatten_cons, List.length_append, ih (fun cs h => hz cs (by simp [h])), hz c (by simp), List.length_cons, Nat.add_mul]; omega
theorem flat_get {cs : List Value} {j : Nat} {u : Value} (hz : ∀ cs ∈ css, cs.length = z) (hi : css[i]? = some cs) (hj : cs[j]? = some u) : css.flatten[i * z + j]? = some u := by
  induction css generalizing i with
  | nil => simp at hi
  | cons c css ih =>
    rw [List.flatten_cons]
    have hc := hz c (by simp)
    cases i with
    | zero =>
      simp at hi; subst hi
      have := (List.getElem?_eq_some_iff.1 hj).1
      rw [List.getElem?_append_left (by omega), Nat.zero_mul, Nat.zero_add]
      exact hj
    | succ i =>
      rw [List.getElem?_append_right (by rw [Nat.add_mul]; omega), hc, show (i + 1) * z + j - z = i * z + j by rw [Nat.add_mul]; omega]
      exact ih (fun cs h => hz cs (by simp [h])) (by simpa using hi)
theorem flat_drop (hz : ∀ cs ∈ css, cs.length = z) (k : Nat) : (css.drop k).flatten = css.flatten.drop (k * z) := by
  induction css generalizing k with
  | nil => simp
  | cons c css ih =>
    cases k with
    | zero => simp
    | succ k =>
      have hc := hz c (by simp)
      have e : (c ++ css.flatten).drop ((k + 1) * z) = css.flatten.drop (k * z) := by
        rw [List.drop_append, (List.drop_eq_nil_of_le (by rw [hc, Nat.add_mul]; omega) : c.drop ((k + 1) * z) = []), List.nil_append, hc, show (k + 1) * z - z = k * z by rw [Nat.add_mul]; omega]
      rw [List.drop_succ_cons, ih (fun cs h => hz cs (by simp [h])), List.flatten_cons, e]
theorem flat_take (hz : ∀ cs ∈ css, cs.length = z) (k : Nat) : (css.take k).flatten = css.flatten.take (k * z) := by
  induction css generalizing k with
  | nil => simp
  | cons c css ih =>
    cases k with
    | zero => simp
    | succ k =>
      have hc := hz c (by simp)
      have e : (c ++ css.flatten).take ((k + 1) * z) = c ++ css.flatten.take (k * z) := by
        rw [List.take_append, List.take_of_length_le (l := c) (by rw [hc, Nat.add_mul]; omega), hc, show (k + 1) * z - z = k * z by rw [Nat.add_mul]; omega]
      rw [List.take_succ_cons, List.flatten_cons, ih (fun cs h => hz cs (by simp [h])), List.flatten_cons, e]
end
section
variable {X : Type} {w w' : World} {T U : Nat → Prop} {z : Nat} {P Q : X → List Value → Prop} {v : Value} {l : List X} {S : List Nat}
theorem srcG_upd {xo : Option Addr} {m cp : Nat} {xs : List Value} (h : SrcAt w xo m cp xs z) (hu : Upd S w w') (hS : ∀ a, xo = some a → m ≠ 0 → a.block ∉ S) : SrcAt w' xo m cp xs z :=
  ⟨h.len, h.one, h.nil, fun a e j u hj => by
    have h1 := h.cells a e j u hj
    have h2 := World.block_lt_of_cell? w _ h1
    have hb : (a.add j).block = a.block := by unfold Addr.add; split <;> rfl
    have hm : m ≠ 0 := by
      intro h0
      have := h.len
      rw [h0] at this
      simp at this
      rw [this] at hj
      simp at hj
    have h3 := hu.block _ h2 (by rw [hb]; exact hS a e hm)
    rw [← h1]
    simp only [World.cell?, h3]⟩
/-- A row at v, within the blocks T, of things of z cells each. -/
def Row (w : World) (T : Nat → Prop) (z : Nat) (P : X → List Value → Prop) (v : Value) (l : List X) : Prop :=
  ∃ (xo : Option Addr) (c : Nat) (css : List (List Value)), v = .slice xo l.length c ∧ Each P l css ∧ (∀ cs ∈ css, cs.length = z) ∧ SrcAt w xo l.length c css.flatten z ∧ l.length ≤ c ∧ c ≤ maxLen ∧ ∀ a, xo = some a → l.length ≠ 0 → T a.block
theorem Row.upd (h : Row w T z P v l) (hu : Upd S w w') (hS : ∀ k ∈ S, ¬ T k) (hP : ∀ x cs, x ∈ l → P x cs → Q x cs) : Row w' T z Q v l := by
  obtain ⟨xo, c, css, e, h1, h2, h3, h4, h5, h6⟩ := h
  exact ⟨xo, c, css, e, h1.mono hP, h2, srcG_upd h3 hu (fun a ha hm hb => hS _ hb (h6 a ha hm)), h4, h5, h6⟩
theorem Row.mono (h : Row w T z P v l) (hT : ∀ k, T k → U k) (hP : ∀ x cs, x ∈ l → P x cs → Q x cs) : Row w U z Q v l := by
  obtain ⟨xo, c, css, e, h1, h2, h3, h4, h5, h6⟩ := h
  exact ⟨xo, c, css, e, h1.mono hP, h2, h3, h4, h5, fun a ha hm => hT _ (h6 a ha hm)⟩
theorem Row.nil (w : World) (T : Nat → Prop) (z : Nat) (P : X → List Value → Prop) : Row w T z P (.slice none 0 0) [] := ⟨none, 0, [], rfl, .nil, by simp, ⟨by simp, by simp, fun _ => ⟨rfl, rfl⟩, by simp⟩, Nat.le_refl _, by simp [maxLen], by simp⟩
/-- What there is at an index. -/
theorem Row.get (hz : 0 < z) (h : Row w T z P v l) : ∃ (xo : Option Addr) (c : Nat), v = .slice xo l.length c ∧ l.length ≤ c ∧ c ≤ maxLen ∧
    ∀ i x, l[i]? = some x → ∃ b off cs, xo = some ⟨b, off, none⟩ ∧ b < w.heap.size ∧ T b ∧ P x cs ∧ cs.length = z ∧ ∀ j u, cs[j]? = some u → w.cell? ⟨b, off + i * z + j, none⟩ = some u := by
  obtain ⟨xo, c, css, e, h1, h2, h3, h4, h5, h6⟩ := h
  refine ⟨xo, c, e, h4, h5, fun i x hi => ?_⟩
  have hlt := (List.getElem?_eq_some_iff.1 hi).1
  obtain ⟨cs, hcs, hP⟩ := h1.get hi
  have hcz := h2 cs (List.mem_of_getElem? hcs)
  cases xo with
  | none => have := (h3.nil rfl).1; omega
  | some a =>
    obtain ⟨b, off, sp⟩ := a
    have get : ∀ j u, cs[j]? = some u → w.cell? ((⟨b, off, sp⟩ : Addr).add (i * z + j)) = some u := fun j u hj => h3.cells _ rfl _ _ (flat_get h2 hcs hj)
    have c0 := get 0 (cs[0]'(by omega)) (List.getElem?_eq_getElem (by omega))
    have hsp : sp = none := by
      have hf : 0 < css.flatten.length := by
        rw [flat_len h2, h1.len]
        exact Nat.mul_pos (by omega) hz
      have := World.cell?_spot (h3.cells _ rfl 0 _ (List.getElem?_eq_getElem hf))
      simpa [Addr.add] using this
    subst hsp
    have ad : ∀ n, (⟨b, off, none⟩ : Addr).add n = ⟨b, off + n, none⟩ := fun n => by unfold Addr.add; split <;> simp_all
    refine ⟨b, off, cs, rfl, World.block_lt_of_cell? w _ c0 |> fun h => by rw [ad] at h; exact h, h6 _ rfl (by omega), hP, hcz, fun j u hj => ?_⟩
    have := get j u hj
    rw [ad, ← Nat.add_assoc] at this
    exact this
theorem Row.slice (h : Row w T z P v l) : ∃ (xo : Option Addr) (c : Nat), v = .slice xo l.length c ∧ l.length ≤ c ∧ c ≤ maxLen := by
  obtain ⟨xo, c, css, e, h1, h2, h3, h4, h5, h6⟩ := h
  exact ⟨xo, c, e, h4, h5⟩
theorem Row.src (h : Row w T z P v l) : ∃ (xo : Option Addr) (c : Nat) (css : List (List Value)), v = .slice xo l.length c ∧ l.length ≤ c ∧ c ≤ maxLen ∧ Each P l css ∧ (∀ cs ∈ css, cs.length = z) ∧ SrcAt w xo l.length c css.flatten z ∧ ∀ a, xo = some a → l.length ≠ 0 → T a.block := by
  obtain ⟨xo, c, css, e, h1, h2, h3, h4, h5, h6⟩ := h
  exact ⟨xo, c, css, e, h4, h5, h1, h2, h3, h6⟩
/-- Where 's[l:..]' of things of z cells begins. -/
def cutZ (z : Nat) (xo : Option Addr) (l c : Nat) : Option Addr := if c = l then xo else xo.map (·.add (l * z))
theorem Row.cut {xo : Option Addr} {m c lo hi q : Nat} (h : Row w T z P (.slice xo m c) l) (h1 : lo ≤ hi) (h2 : hi ≤ m) (h3 : hi ≤ q) (h4 : q ≤ c) : Row w T z P (.slice (cutZ z xo lo q) (hi - lo) (q - lo)) ((l.drop lo).take (hi - lo)) := by
  obtain ⟨xo', c', css, e, k1, k2, k3, k4, k5, k6⟩ := h
  cases e
  have hlen : ((l.drop lo).take (hi - lo)).length = hi - lo := by simp; omega
  refine ⟨_, _, (css.drop lo).take (hi - lo), by rw [hlen], (k1.drop lo).take _, fun cs h => k2 cs (List.mem_of_mem_drop (List.mem_of_mem_take h)), ?_, by rw [hlen]; omega, by omega, fun a ha hm => ?_⟩
  · rw [hlen]
    have hz' : ∀ cs ∈ css.drop lo, cs.length = z := fun cs h => k2 cs (List.mem_of_mem_drop h)
    rw [flat_take hz', flat_drop k2]
    refine ⟨?_, fun u hu => k3.one u (List.mem_of_mem_drop (List.mem_of_mem_take hu)), fun e => ?_, fun a e j u hj => ?_⟩
    · rw [List.length_take, List.length_drop, k3.len, ← Nat.sub_mul]
      exact Nat.min_eq_left (Nat.mul_le_mul_right _ (by omega))
    · have : xo = none := by unfold cutZ at e; split at e; exact e; cases xo <;> simp_all
      have := k3.nil this
      omega
    · rw [List.getElem?_take] at hj
      split at hj
      · rename_i hjl
        have hq : q ≠ lo := by rintro rfl; have : hi - q = 0 := by omega
                               rw [this] at hjl; simp at hjl
        unfold cutZ at e
        rw [if_neg hq] at e
        cases xo with
        | none => cases e
        | some a0 =>
          cases e
          rw [List.getElem?_drop] at hj
          have := k3.cells a0 rfl (lo * z + j) u hj
          rw [← this, Go.Deep.add_add]
      · cases hj
  · rw [hlen] at hm
    unfold cutZ at ha
    split at ha
    · exact k6 a ha (by omega)
    · cases xo with
      | none => cases ha
      | some a0 =>
        cases ha
        have := k6 a0 rfl (by omega)
        unfold Addr.add
        split <;> simpa using this
/-- A row that a call builds. -/
def Own (w : World) (base : Nat) (ty : TypeId) (z : Nat) (P : X → List Value → Prop) (v : Value) (l : List X) : Prop :=
  ∃ css, Each P l css ∧ (∀ cs ∈ css, cs.length = z ∧ ∀ u ∈ cs, u.oneCell' = true) ∧ w.ownsRow base ty z v l.length css.flatten
theorem Own.nil (w : World) (base : Nat) (ty : TypeId) (z : Nat) (P : X → List Value → Prop) : Own w base ty z P (.slice none 0 0) [] := ⟨[], .nil, by simp, World.ownsRow_nil w base ty z⟩
theorem Own.upd {base : Nat} {ty : TypeId} (h : Own w base ty z P v l) (hu : Upd S w w') (hne : ∀ k, v.ownBlock = some k → k ∉ S) (hP : ∀ x cs, x ∈ l → P x cs → Q x cs) : Own w' base ty z Q v l := by
  obtain ⟨css, h1, h2, h3⟩ := h
  exact ⟨css, h1.mono hP, h2, owns_upd h3 hu hne⟩
theorem srcZ_own {base n : Nat} {e : TypeId} {ao : Option Addr} {cap : Nat} {xs : List Value} (h : w.ownsRow base e z (.slice ao n cap) n xs) (h1 : ∀ u ∈ xs, u.oneCell' = true) : SrcAt w ao n cap xs z := by
  obtain ⟨ao', cap', e1, -, -, h3⟩ := owns_slice h
  cases e1
  refine ⟨h.1, h1, fun e => ?_, fun a e j u hj => ?_⟩
  · rcases h.2 with ⟨e2, e3⟩ | ⟨g, c, cur, e2, -⟩
    · cases e2; exact ⟨rfl, rfl⟩
    · rw [e] at e2; cases e2
  · obtain ⟨g, e4, -, -, e5⟩ := h3 j u hj
    rw [e] at e4
    cases e4
    by_cases h0 : j = 0
    · subst h0; simpa [Addr.add] using e5
    · simpa [Addr.add, h0] using e5
theorem Own.row {base : Nat} {ty : TypeId} (h : Own w base ty z P v l) : Row w (fun k => v.ownBlock = some k) z P v l := by
  obtain ⟨css, h1, h2, h3⟩ := h
  obtain ⟨ao, cap, rfl, h4, h5, h6⟩ := owns_slice h3
  refine ⟨ao, cap, css, rfl, h1, fun cs h => (h2 cs h).1, srcZ_own h3 (fun u hu => ?_), h4, h5, fun a ha hm => ?_⟩
  · obtain ⟨cs, hc, hu'⟩ := List.mem_flatten.1 hu
    exact (h2 cs hc).2 u hu'
  · rcases h3.2 with ⟨e2, e3⟩ | ⟨g, c, cur, e2, -⟩
    · omega
    · cases e2; cases ha; rfl
theorem Own.lt {base : Nat} {ty : TypeId} (h : Own w base ty z P v l) : ∀ k, v.ownBlock = some k → base ≤ k ∧ k < w.heap.size := by
  obtain ⟨css, h1, h2, h3⟩ := h
  exact owns_lt h3
/-- A thing more. -/
theorem Own.more {base : Nat} {ty : TypeId} {css : List (List Value)} {x : X} {cs : List Value} {v' : Value} {n : Nat} (h1 : Each P l css) (h2 : ∀ cs ∈ css, cs.length = z ∧ ∀ u ∈ cs, u.oneCell' = true) (hx : P x cs) (hz : cs.length = z) (h1c : ∀ u ∈ cs, u.oneCell' = true)
    (hn : n = l.length + 1) (ho : w.ownsRow base ty z v' n (css.flatten ++ cs)) : Own w base ty z P v' (l ++ [x]) :=
  ⟨css ++ [cs], h1.append (.cons hx .nil), fun c hc => by
    rcases List.mem_append.1 hc with h | h
    · exact h2 c h
    · simp at h; subst h; exact ⟨hz, h1c⟩, by subst hn; simpa using ho⟩
/-- Things more. -/
theorem Own.mores {base : Nat} {ty : TypeId} {css kss : List (List Value)} {k : List X} {v' : Value} {n : Nat} (h1 : Each P l css) (h2 : ∀ cs ∈ css, cs.length = z ∧ ∀ u ∈ cs, u.oneCell' = true) (hx : Each P k kss) (hz : ∀ cs ∈ kss, cs.length = z) (h1c : ∀ u ∈ kss.flatten, u.oneCell' = true)
    (hn : n = l.length + k.length) (ho : w.ownsRow base ty z v' n (css.flatten ++ kss.flatten)) : Own w base ty z P v' (l ++ k) :=
  ⟨css ++ kss, h1.append hx, fun c hc => by
    rcases List.mem_append.1 hc with h | h
    · exact h2 c h
    · exact ⟨hz c h, fun u hu => h1c u (List.mem_flatten.2 ⟨c, h, hu⟩)⟩, by subst hn; simpa using ho⟩
end
end Go.Proofs.YtcjflnnjieolfaaDoor
