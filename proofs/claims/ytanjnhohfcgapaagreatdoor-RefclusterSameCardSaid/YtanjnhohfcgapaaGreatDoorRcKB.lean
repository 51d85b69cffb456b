/- OwX, RcK, RcB in one text. -/
import Derived.Test.YtanjnhohfcgapaaGreatDoorGenAll
import Derived.Test.YtanjnhohfcgapaaGreatDoorPureAll
import Derived.Test.YtanjnhohfcgapaaGreatDoorSgYZ
import Derived.ArgAppend
set_option linter.unusedSimpArgs false
set_option linter.unusedVariables false
set_option linter.unnecessarySimpa false
namespace Go.Proofs.YtanjnhohfcgapaaGreatDoor
open Go.RowKit
set_option linter.unusedSimpArgs false
set_option linter.unusedVariables false

theorem owns_le {w : World} {b b' : Nat} {e : TypeId} {size n : Nat} {v : Value} {xs : List Value} (h : w.ownsRow b e size v n xs) (hb : b' ≤ b) : w.ownsRow b' e size v n xs := by
  refine ⟨h.1, ?_⟩
  rcases h.2 with h1 | ⟨g, cap, cur, hv, hg, r⟩
  · exact .inl h1
  · exact .inr ⟨g, cap, cur, hv, Nat.le_trans hb hg, r⟩
def ownsX (w : World) (e : TypeId) (z : Nat) (v : Value) (n : Nat) (xs : List Value) : Prop :=
  w.ownsRow 0 e z v n xs ∨ (xs.length = n * z ∧ n ≤ maxLen ∧ ∃ g cur, v = .slice (some ⟨g, 0, none⟩) n n ∧ w.heap[g]? = some (.cells cur e (0, 0)) ∧ cur.toList.take (n * z) = xs)
section
variable {w w' : World} {e : TypeId} {z n : Nat} {v : Value} {xs : List Value} {S : List Nat}
theorem ownsX.upd (h : ownsX w e z v n xs) (hu : Upd S w w') (hne : ∀ k, v.ownBlock = some k → k ∉ S) : ownsX w' e z v n xs := by
  rcases h with h | ⟨h1, h2, g, cur, rfl, h3, h4⟩
  · exact .inl (owns_upd h hu hne)
  · exact .inr ⟨h1, h2, g, cur, rfl, hu.get h3 (hne g rfl), h4⟩
theorem ownsX.len (h : ownsX w e z v n xs) : xs.length = n * z := by
  rcases h with h | h
  · exact h.1
  · exact h.1
theorem ownsX.slice (h : ownsX w e z v n xs) : ∃ ao cap, v = .slice ao n cap ∧ n ≤ cap ∧ cap ≤ maxLen ∧ ∀ j u, xs[j]? = some u → ∃ g, ao = some ⟨g, 0, none⟩ ∧ g < w.heap.size ∧ w.cell? ⟨g, j, none⟩ = some u := by
  rcases h with h | ⟨h1, h2, g, cur, rfl, h3, h4⟩
  · obtain ⟨ao, cap, e1, e2, e3, e4⟩ := owns_slice h
    exact ⟨ao, cap, e1, e2, e3, fun j u hj => by obtain ⟨g, a1, -, a3, a4⟩ := e4 j u hj; exact ⟨g, a1, a3, a4⟩⟩
  · refine ⟨_, n, rfl, Nat.le_refl _, h2, fun j u hj => ⟨g, rfl, blk_lt h3, blk_cell h3 ?_⟩⟩
    rw [← h4, List.getElem?_take] at hj
    split at hj
    · simpa using hj
    · cases hj
theorem ownsX.lt (h : ownsX w e z v n xs) : ∀ k, v.ownBlock = some k → k < w.heap.size := by
  rcases h with h | ⟨h1, h2, g, cur, rfl, h3, h4⟩
  · exact fun k hk => (owns_lt h k hk).2
  · intro k hk
    cases hk
    exact blk_lt h3
theorem ownsX.some (h : ownsX w e z v n xs) (hn : n ≠ 0) : ∃ g cur cap, v = .slice (some ⟨g, 0, none⟩) n cap ∧ w.heap[g]? = Option.some (.cells cur e (0, 0)) ∧ cur.toList.take (n * z) = xs ∧ n ≤ maxLen := by
  rcases h with h | ⟨h1, h2, g, cur, rfl, h3, h4⟩
  · rcases h.2 with ⟨-, h0⟩ | ⟨g, cap, cur, rfl, -, h3, h4, h5, -, h6⟩
    · exact absurd h0 hn
    · exact ⟨g, cur, cap, rfl, h3, h6, by omega⟩
  · exact ⟨g, cur, n, rfl, h3, h4, h2⟩
theorem ownsX.src {ao : Option Addr} {cap : Nat} (h : ownsX w e z (.slice ao n cap) n xs) (h1 : ∀ u ∈ xs, u.oneCell' = true) : SrcAt w ao n cap xs z := by
  rcases h with h | ⟨k1, h2, g, cur, k2, h3, h4⟩
  · exact srcZ_own h h1
  · cases k2
    refine ⟨k1, h1, (fun e => by cases e), fun a e j u hj => ?_⟩
    cases e
    rw [Addr.add_lit]
    simp only [Nat.zero_add]
    refine blk_cell h3 ?_
    rw [← h4, List.getElem?_take] at hj
    split at hj
    · simpa using hj
    · cases hj
theorem SrcAt.cut {xo : Option Addr} {c lo : Nat} (h : SrcAt w xo n c xs z) (h1 : lo ≤ n) (h2 : n ≤ c) : SrcAt w (cutZ z xo lo c) (n - lo) (c - lo) (xs.drop (lo * z)) z := by
  refine ⟨by rw [List.length_drop, h.len, Nat.sub_mul], fun u hu => h.one u (List.mem_of_mem_drop hu), fun e => ?_, fun a e j u hj => ?_⟩
  · have : xo = none := by unfold cutZ at e; split at e; exact e; cases xo <;> simp_all
    have := h.nil this
    omega
  · have hl := h.len
    have hjl : lo * z + j < n * z := by
      have := (List.getElem?_eq_some_iff.1 hj).1
      rw [List.length_drop] at this; omega
    have hq : c ≠ lo := by
      rintro rfl
      have : n = c := by omega
      subst this; omega
    unfold cutZ at e
    rw [if_neg hq] at e
    cases xo with
    | none => cases e
    | some a0 =>
      cases e
      rw [List.getElem?_drop] at hj
      have := h.cells a0 rfl (lo * z + j) u hj
      rw [← this, Go.Deep.add_add]
section
variable {P : Program}
/-- Things more, of either. -/
theorem run_append_x (t ty : TypeId) (i : TypeInfo) (zv : Value) (size bytes : Nat) (ht : P.underlying t = some (.slice e)) (hi : P.info? e = some i) (hz : i.zero = some zv)
    (hsize : i.size = size) (hby : i.bytes = bytes) (hzs : zv.cells.size = size) (hsz : 0 < size)
    (hown : ownsX w e size v n xs) (xo : Option Addr) (m c : Nat) (news : List Value) (hm : 0 < m) (hs : SrcAt w xo m c news size)
    (h63 : n + m ≤ maxLen) (hbytes : (n + m) * bytes ≤ 140737488355328) :
    ∃ ao' cap' w', (Builtin.append_ #[t, t] ty #[v, .slice xo m c]).run P w = .ok (.slice ao' (n + m) cap') w' ∧ ownsX w' e size (.slice ao' (n + m) cap') (n + m) (xs ++ news) ∧ Upd v.ownBlock.toList w w' ∧
      (∀ g, (Value.slice ao' (n + m) cap').ownBlock = some g → v.ownBlock = some g ∨ w.heap.size ≤ g) := by
  rcases hown with h | ⟨h1, h2, g, cur, rfl, h3, h4⟩
  · obtain ⟨ao', cap', w', a1, a2, a3, a4, -⟩ := run_append_src (P := P) w 0 t ty e i zv size bytes ht hi hz hsize hby hzs hsz v n xs h xo m c news hs h63 hbytes (Nat.zero_le _)
    exact ⟨ao', cap', w', a1, .inl a2, a3, a4⟩
  · cases xo with
    | none => have := (hs.nil rfl).1; omega
    | some a =>
      obtain ⟨v', w', hr, ho, hg⟩ := run_append_arg_grows (P := P) w t ty e i zv size bytes ht hi hz hsize hby hzs hsz ⟨g, 0, none⟩ n n xs h1 (fun j u hj => by
        rw [Addr.add_lit]
        simp only [Nat.zero_add]
        refine blk_cell h3 ?_
        rw [← h4, List.getElem?_take] at hj
        split at hj
        · simpa using hj
        · cases hj) a m c news hs.len (hs.cells a rfl) (by omega) h63 hbytes
      obtain ⟨ao, cap, rfl, -, -, -⟩ := owns_slice ho
      refine ⟨ao, cap, w', hr, .inl (owns_le ho (Nat.zero_le _)), (Upd.of_grownBy (S := []) hg (fun k e => by cases e)).mono (by simp), fun k hk => .inr (owns_lt ho k hk).1⟩
theorem wp_append_x {o : Oper} {a : Act} {K : Act → World → Prop} {Qe : Exit → Act → World → Prop} (s x : Operand) (t : TypeId)
    (ho : o.op = .call { callee := .builtin .append, args := #[s, x], argTypes := #[t, t] })
    (e : TypeId) (i : TypeInfo) (zv : Value) (size bytes : Nat) (ht : P.underlying t = some (.slice e)) (hi : P.info? e = some i) (hz : i.zero = some zv)
    (hsize : i.size = size) (hby : i.bytes = bytes) (hzs : zv.cells.size = size) (hsz : 0 < size)
    (v : Value) (n : Nat) (xs : List Value) (hs : a.eval s = v) (hown : ownsX w e size v n xs)
    (xo : Option Addr) (m c : Nat) (news : List Value) (hm : 0 < m) (hx : a.eval x = .slice xo m c) (hsrc : SrcAt w xo m c news size)
    (h63 : n + m ≤ maxLen) (hbytes : (n + m) * bytes ≤ 140737488355328)
    (h : ∀ ao' cap' w', ownsX w' e size (.slice ao' (n + m) cap') (n + m) (xs ++ news) → Upd v.ownBlock.toList w w' → (∀ g, (Value.slice ao' (n + m) cap').ownBlock = some g → v.ownBlock = some g ∨ w.heap.size ≤ g) →
      K (a.put o.dst (.slice ao' (n + m) cap')) w') : Oper.wp P o a w K Qe := by
  obtain ⟨ao, cap, w', hr, h2, h3, h4⟩ := run_append_x (P := P) t o.type i zv size bytes ht hi hz hsize hby hzs hsz hown xo m c news hm hsrc h63 hbytes
  unfold Oper.wp execOp
  simp only [ho, resolve, invoke, builtin, Sem.run_bind, Sem.run_pure, Result.andThen_ok, List.map_toArray, List.map_cons, List.map_nil, hs, hx, hr]
  exact h ao cap w' h2 h3 h4
/-- One is struck out. -/
theorem run_strike (t ty : TypeId) (i : TypeInfo) (zv : Value) (size bytes : Nat) (ht : P.underlying t = some (.slice e)) (hi : P.info? e = some i) (hz : i.zero = some zv)
    (hsize : i.size = size) (hby : i.bytes = bytes) (hzs : zv.cells.size = size) (hsz : 0 < size) {ao : Option Addr} {cap k : Nat}
    (hown : ownsX w e size (.slice ao n cap) n xs) (h1 : ∀ u ∈ xs, u.oneCell' = true) (hc : n ≤ cap) (hk : k < n) (h63 : n ≤ maxLen) (hbytes : n * bytes ≤ 140737488355328) :
    ∃ ao' cap' w', (Builtin.append_ #[t, t] ty #[.slice ao k k, .slice (cutZ size ao (k + 1) cap) (n - (k + 1)) (cap - (k + 1))]).run P w = .ok (.slice ao' (n - 1) cap') w' ∧
      ownsX w' e size (.slice ao' (n - 1) cap') (n - 1) (xs.take (k * size) ++ xs.drop ((k + 1) * size)) ∧ Upd [] w w' ∧ (∀ g, (Value.slice ao' (n - 1) cap').ownBlock = some g → (Value.slice ao n cap).ownBlock = some g ∨ w.heap.size ≤ g) := by
  have hs := (hown.src h1).cut (lo := k + 1) (by omega) hc
  have hl := hown.len
  obtain ⟨g, cur, cap', he, hg, hcur, hml⟩ := hown.some (by omega)
  cases he
  have htk : (xs.take (k * size)).length = k * size := by
    rw [List.length_take, hl]
    exact Nat.min_eq_left (Nat.mul_le_mul_right _ (by omega))
  obtain ⟨a2, ha2⟩ : ∃ a2, cutZ size (some ⟨g, 0, none⟩) (k + 1) cap = some a2 := by
    unfold cutZ
    split
    · exact ⟨_, rfl⟩
    · exact ⟨_, rfl⟩
  rw [ha2] at hs ⊢
  by_cases hlast : n = k + 1
  · subst hlast
    have e0 : k + 1 - (k + 1) = 0 := by omega
    have hr := run_append_room_cells (P := P) w t ty e i ht hi g 0 k k a2 0 (cap - (k + 1)) [] (by simp) (by simp) (by simp) (by omega) (by simp) (by simp)
    refine ⟨some ⟨g, 0, none⟩, k, w, ?_, .inr ⟨?_, by omega, g, cur, rfl, hg, ?_⟩, Upd.refl _ _, fun q hq => .inl hq⟩
    · rw [e0, hr]
      rfl
    · rw [List.length_append, htk, List.length_drop, hl]; simp
    · have hd : xs.drop ((k + 1) * size) = [] := List.drop_eq_nil_of_le (by omega)
      rw [hd, List.append_nil, ← hcur, List.take_take]
      congr 1
      exact (Nat.min_eq_left (Nat.mul_le_mul_right _ (by omega))).symm
  · obtain ⟨v', w', hr, ho, hgr⟩ := run_append_arg_grows (P := P) w t ty e i zv size bytes ht hi hz hsize hby hzs hsz ⟨g, 0, none⟩ k k (xs.take (k * size)) htk (fun j u hj => by
      rw [Addr.add_lit]
      simp only [Nat.zero_add]
      rw [List.getElem?_take] at hj
      split at hj
      · refine blk_cell hg ?_
        rw [← hcur, List.getElem?_take] at hj
        split at hj
        · simpa using hj
        · cases hj
      · cases hj) a2 (n - (k + 1)) (cap - (k + 1)) _ hs.len (hs.cells a2 rfl) (by omega) (by omega) (Nat.le_trans (Nat.mul_le_mul_right _ (by omega)) hbytes)
    have en : k + (n - (k + 1)) = n - 1 := by omega
    rw [en] at ho
    obtain ⟨ao, cap2, rfl, -, -, -⟩ := owns_slice ho
    exact ⟨ao, cap2, w', hr, .inl (owns_le ho (Nat.zero_le _)), Upd.of_grownBy (S := []) hgr (fun k e => by cases e), fun q hq => .inr (owns_lt ho q hq).1⟩
theorem wp_strike {o : Oper} {a : Act} {K : Act → World → Prop} {Qe : Exit → Act → World → Prop} (s x : Operand) (t : TypeId)
    (ho : o.op = .call { callee := .builtin .append, args := #[s, x], argTypes := #[t, t] })
    (e : TypeId) (i : TypeInfo) (zv : Value) (size bytes : Nat) (ht : P.underlying t = some (.slice e)) (hi : P.info? e = some i) (hz : i.zero = some zv)
    (hsize : i.size = size) (hby : i.bytes = bytes) (hzs : zv.cells.size = size) (hsz : 0 < size) {ao : Option Addr} {n cap k : Nat} {xs : List Value}
    (hown : ownsX w e size (.slice ao n cap) n xs) (h1 : ∀ u ∈ xs, u.oneCell' = true) (hc : n ≤ cap) (hk : k < n) (h63 : n ≤ maxLen) (hbytes : n * bytes ≤ 140737488355328)
    (hs : a.eval s = .slice ao k k) (hx : a.eval x = .slice (cutZ size ao (k + 1) cap) (n - (k + 1)) (cap - (k + 1)))
    (h : ∀ ao' cap' w', ownsX w' e size (.slice ao' (n - 1) cap') (n - 1) (xs.take (k * size) ++ xs.drop ((k + 1) * size)) → Upd [] w w' → (∀ g, (Value.slice ao' (n - 1) cap').ownBlock = some g → (Value.slice ao n cap).ownBlock = some g ∨ w.heap.size ≤ g) →
      K (a.put o.dst (.slice ao' (n - 1) cap')) w') : Oper.wp P o a w K Qe := by
  obtain ⟨ao2, cap2, w', hr, h2, h3, h4⟩ := run_strike (P := P) t o.type i zv size bytes ht hi hz hsize hby hzs hsz hown h1 hc hk h63 hbytes
  unfold Oper.wp execOp
  simp only [ho, resolve, invoke, builtin, Sem.run_bind, Sem.run_pure, Result.andThen_ok, List.map_toArray, List.map_cons, List.map_nil, hs, hx, hr]
  exact h ao2 cap2 w' h2 h3 h4
end
end
/-- A row, so. -/
def OwnX {X : Type} (w : World) (ty : TypeId) (z : Nat) (P : X → List Value → Prop) (v : Value) (l : List X) : Prop :=
  ∃ css, Each P l css ∧ (∀ cs ∈ css, cs.length = z ∧ ∀ u ∈ cs, u.oneCell' = true) ∧ ownsX w ty z v l.length css.flatten
section
variable {X : Type} {w w' : World} {ty : TypeId} {z : Nat} {P Q : X → List Value → Prop} {v : Value} {l : List X} {S : List Nat}
theorem OwnX.of (h : Own w 0 ty z P v l) : OwnX w ty z P v l := by
  obtain ⟨css, h1, h2, h3⟩ := h
  exact ⟨css, h1, h2, .inl h3⟩
theorem OwnX.upd (h : OwnX w ty z P v l) (hu : Upd S w w') (hne : ∀ k, v.ownBlock = some k → k ∉ S) (hP : ∀ x cs, x ∈ l → P x cs → Q x cs) : OwnX w' ty z Q v l := by
  obtain ⟨css, h1, h2, h3⟩ := h
  exact ⟨css, h1.mono hP, h2, h3.upd hu hne⟩
theorem OwnX.lt (h : OwnX w ty z P v l) : ∀ k, v.ownBlock = some k → k < w.heap.size := by
  obtain ⟨css, h1, h2, h3⟩ := h
  exact h3.lt
theorem OwnX.more {css : List (List Value)} {x : X} {cs : List Value} {v' : Value} {n : Nat} (h1 : Each P l css) (h2 : ∀ cs ∈ css, cs.length = z ∧ ∀ u ∈ cs, u.oneCell' = true) (hx : P x cs) (hz : cs.length = z) (h1c : ∀ u ∈ cs, u.oneCell' = true)
    (hn : n = l.length + 1) (ho : ownsX w ty z v' n (css.flatten ++ cs)) : OwnX w ty z P v' (l ++ [x]) :=
  ⟨css ++ [cs], h1.append (.cons hx .nil), fun c hc => by
    rcases List.mem_append.1 hc with h | h
    · exact h2 c h
    · simp at h; subst h; exact ⟨hz, h1c⟩, by subst hn; simpa using ho⟩
theorem OwnX.strike {css : List (List Value)} {v' : Value} {k : Nat} (h1 : Each P l css) (h2 : ∀ cs ∈ css, cs.length = z ∧ ∀ u ∈ cs, u.oneCell' = true) (hk : k < l.length)
    (ho : ownsX w ty z v' (l.length - 1) (css.flatten.take (k * z) ++ css.flatten.drop ((k + 1) * z))) : OwnX w ty z P v' (l.eraseIdx k) := by
  have hz : ∀ cs ∈ css, cs.length = z := fun cs h => (h2 cs h).1
  refine ⟨css.take k ++ css.drop (k + 1), ?_, fun c hc => ?_, ?_⟩
  · rw [List.eraseIdx_eq_take_drop_succ]
    exact (h1.take _).append (h1.drop _)
  · rcases List.mem_append.1 hc with h | h
    · exact h2 c (List.mem_of_mem_take h)
    · exact h2 c (List.mem_of_mem_drop h)
  · rw [List.flatten_append, flat_take hz, flat_drop hz, List.length_eraseIdx, if_pos hk]
    exact ho
end
end Go.Proofs.YtanjnhohfcgapaaGreatDoor
namespace Go.Proofs.YtanjnhohfcgapaaGreatDoor.Sg
open Go.RowKit Go.Proofs.YtanjnhohfcgapaaGreatDoor.Crc Go.Proofs.YtanjnhohfcgapaaGreatDoor.Cm Go.Proofs.YtanjnhohfcgapaaGreatDoor.Tr Go.Proofs.YtanjnhohfcgapaaGreatDoor.Kv Go.Proofs.YtanjnhohfcgapaaGreatDoor.Au
set_option linter.unusedSimpArgs false
set_option linter.unusedVariables false

abbrev TRc : TypeId := 155
abbrev TLt : TypeId := 204
abbrev TPs : TypeId := 53
/-- A single's place. -/
def ptK : Kind Nat where
  z := 1
  hz := by decide
  holds _ _ p cs := cs = [.pointer (some ⟨p, 0, none⟩)]
  len := by rintro w T c cs rfl; rfl
  one := by rintro w T c cs rfl; simp [Value.oneCell']
  upd := by rintro w w' T c cs S h hu hS; exact h
  mono := by rintro w T U c cs h hT; exact h
def ltc (l : Lt) (ks : Value) : List Value := .int .i64 l.1 :: sec l.2 ks
/-- A letter. -/
def ltK : Kind Lt where
  z := 16
  hz := by decide
  holds w T l cs := l.2.2.Ok ∧ ∃ ks, cs = ltc l ks ∧ Ky w T ks l.2.2.cmd
  len := by rintro w T c cs ⟨-, ks, rfl, -⟩; rfl
  one := by
    rintro w T c cs ⟨-, ks, rfl, h⟩
    obtain ⟨xo, cp, rfl⟩ := h.slice
    simp [ltc, sec, strV, Value.oneCell']
  upd := by rintro w w' T c cs S ⟨h1, ks, e, h⟩ hu hS; exact ⟨h1, ks, e, h.upd hu hS⟩
  mono := by rintro w T U c cs ⟨h1, ks, e, h⟩ hT; exact ⟨h1, ks, e, h.mono hT⟩
/-- What was told. -/
def tlK : Kind Tl where
  z := 4
  hz := by decide
  holds w T t cs := ∃ va vd, cs = [.int .i64 t.r, .int .i64 t.e, va, vd] ∧ anK.row w T va t.ans ∧ Tr.cmK.row w T vd t.done
  len := by rintro w T c cs ⟨va, vd, rfl, -⟩; rfl
  one := by
    rintro w T c cs ⟨va, vd, rfl, h1, h2⟩
    have := row_one h1; have := row_one h2
    intro u hu
    simp only [List.mem_cons, List.not_mem_nil, or_false] at hu
    rcases hu with rfl | rfl | rfl | rfl
    · rfl
    · rfl
    · assumption
    · assumption
  upd := by rintro w w' T c cs S ⟨va, vd, e, h1, h2⟩ hu hS; exact ⟨va, vd, e, anK.row_upd h1 hu hS, Tr.cmK.row_upd h2 hu hS⟩
  mono := by rintro w T U c cs ⟨va, vd, e, h1, h2⟩ hT; exact ⟨va, vd, e, anK.row_mono h1 hT, Tr.cmK.row_mono h2 hT⟩
/-- Where its things lie. -/
structure Rg where
  p : Nat
  lv : Value
  rv : Value
  ps : Nat → Nat
  Ms : Nat → Nat → Prop
def Rg.own (g : Rg) (k : Nat) : Prop := k = g.p ∨ g.lv.ownBlock = some k ∨ g.rv.ownBlock = some k
def Rg.M (g : Rg) (n k : Nat) : Prop := g.own k ∨ ∃ r, r < n ∧ g.Ms r k
structure RcAt (w : World) (T : Nat → Prop) (g : Rg) (x : Rc) : Prop where
  blk : w.heap[g.p]? = some (.cells #[g.lv, g.rv] TRc (0, 0))
  lst : Own w 0 TPs 1 (ptK.holds w T) g.lv ((List.range x.n).map g.ps)
  row : OwnX w TLt 16 (ltK.holds w T) g.rv x.row
  at' : ∀ r, r < x.n → ∃ G, XIdle w T (g.Ms r) (g.ps r) (x.xs r) G
  apart : ∀ r s, r < x.n → s < x.n → r ≠ s → ∀ k, g.Ms r k → ¬ g.Ms s k
  pl : g.lv.ownBlock ≠ some g.p
  pr : g.rv.ownBlock ≠ some g.p
  lr : ∀ k, g.lv.ownBlock = some k → g.rv.ownBlock ≠ some k
  out : ∀ k, g.own k → ¬ T k ∧ ∀ r, r < x.n → ¬ g.Ms r k
  ltT : ∀ k, T k → k < w.heap.size
section
variable {w w' : World} {T T' M' : Nat → Prop} {g : Rg} {x : Rc} {r : Nat} {s : SO} {v : Value} {y : Sg}
theorem XIdle.far {M M2 : Nat → Prop} {p : Nat} {G : Gh} {z : Sg} (h : XIdle w T M2 p z G) (hE : Ext w T M w' T' M') (hM : ∀ k, M k → ¬ M2 k) (hlt : ∀ k, T' k → k < w'.heap.size) (ha : ∀ k, T k → ¬ M k) : XIdle w' T' M2 p z G := by
  obtain ⟨S, hS, hu⟩ := hE.upd
  have hz := hu.size
  have h1 := h.2.shift hu fun k hk => .inr ⟨hM k (hS k hk), fun ht => ha k ht (hS k hk)⟩
  have hp : p ∉ S := fun hk => hM p (hS p hk) h.2.pM
  refine ⟨hu.get h.1 hp, own_mono h1.log hE.keep, own_mono h1.waits hE.keep, Own.nil _ _ _ _ _, Own.nil _ _ _ _ _, Own.nil _ _ _ _ _, h1.app, h1.appM, h1.hi, h1.vote.mono hE.keep, h1.asks.mono hE.keep, h1.nm, ⟨fun k hk hm => ?_, hlt, h1.apt.ltM⟩⟩
  rcases hE.newT k hk with h5 | h5
  · exact h.2.apt.apart k h5 hm
  · have := h.2.apt.ltM k hm; omega
theorem RcAt.apt (h : RcAt w T g x) : Apt w T (g.M x.n) := by
  refine ⟨fun k hk hm => ?_, h.ltT, fun k hm => ?_⟩
  · rcases hm with hm | ⟨r, hr, hm⟩
    · exact (h.out k hm).1 hk
    · obtain ⟨G, hG⟩ := h.at' r hr
      exact hG.2.apt.apart k hk hm
  · rcases hm with (hm | hm | hm) | ⟨r, hr, hm⟩
    · subst hm; exact blk_lt h.blk
    · exact (Own.lt h.lst k hm).2
    · exact OwnX.lt h.row k hm
    · obtain ⟨G, hG⟩ := h.at' r hr
      exact hG.2.apt.ltM k hm
theorem RcAt.upd_nil (h : RcAt w T g x) (hu : Upd [] w w') : RcAt w' T g x :=
  ⟨hu.get h.blk (by simp), Own.upd h.lst hu (by simp) fun y cs _ hy => hy, OwnX.upd h.row hu (by simp) fun y cs _ hy => ltK.upd hy hu (by simp), fun r hr => by
    obtain ⟨G, hG⟩ := h.at' r hr
    exact ⟨G, hG.upd_nil hu⟩, h.apart, h.pl, h.pr, h.lr, h.out, fun k hk => Nat.lt_of_lt_of_le (h.ltT k hk) hu.size⟩
def Rg.turn (g : Rg) (r : Nat) (M' : Nat → Prop) : Rg := { g with Ms := fun s => if s = r then M' else g.Ms s }
/-- One of the singles is turned. -/
theorem RcAt.turn {G : Gh} (h : RcAt w T g x) (hr : r < x.n) (hX : XIdle w' T' M' (g.ps r) y G) (hE : Ext w T (g.Ms r) w' T' M') :
    RcAt w' T' (g.turn r M') ⟨x.n, up x.xs r y, x.row⟩ ∧ Ext w T (g.M x.n) w' T' ((g.turn r M').M x.n) := by
  obtain ⟨G0, hG0⟩ := h.at' r hr
  obtain ⟨S, hS, hu⟩ := hE.upd
  have hz := hu.size
  have aT : ∀ k, T k → ¬ g.Ms r k := hG0.2.apt.apart
  have nS : ∀ k, g.own k → k ∉ S := fun k hk hs => (h.out k hk).2 r hr (hS k hs)
  have hTS : ∀ k ∈ S, ¬ T k := fun k hk ht => aT k ht (hS k hk)
  have ms : (g.turn r M').Ms r = M' := if_pos rfl
  have mo : ∀ s, s ≠ r → (g.turn r M').Ms s = g.Ms s := fun s hs => if_neg hs
  have olt : ∀ k, g.own k → k < w.heap.size := fun k hk => h.apt.ltM k (.inl hk)
  have mlt : ∀ s, s < x.n → ∀ k, g.Ms s k → k < w.heap.size := fun s hs k hk => h.apt.ltM k (.inr ⟨s, hs, hk⟩)
  refine ⟨⟨hu.get h.blk (nS _ (.inl rfl)), ?_, ?_, fun s hs => ?_, fun a b ha hb hab k hk hk' => ?_, h.pl, h.pr, h.lr, fun k hk => ⟨fun ht => ?_, fun s hs hm => ?_⟩, hX.2.apt.ltT⟩, ⟨⟨S, fun k hk => .inr ⟨r, hr, hS k hk⟩, hu⟩, hE.keep, hE.newT, fun k hk => ?_⟩⟩
  · exact Own.upd h.lst hu (fun k hk => nS k (.inr (.inl hk))) fun y cs _ hy => hy
  · exact OwnX.upd h.row hu (fun k hk => nS k (.inr (.inr hk))) fun y cs _ hy => ltK.mono (ltK.upd hy hu hTS) hE.keep
  · by_cases hsr : s = r
    · subst hsr
      rw [ms]
      exact ⟨G, by show XIdle w' T' M' (g.ps s) (up x.xs s y s) G; rw [up_self]; exact hX⟩
    · obtain ⟨G2, hG2⟩ := h.at' s hs
      rw [mo s hsr]
      refine ⟨G2, ?_⟩
      show XIdle w' T' (g.Ms s) (g.ps s) (up x.xs r y s) G2
      rw [up_ne hsr]
      exact hG2.far hE (fun k hk hk' => h.apart r s hr hs (fun e => hsr e.symm) k hk hk') hX.2.apt.ltT aT
  · by_cases har : a = r
    · subst har
      rw [ms] at hk
      rw [mo b (fun e => hab e.symm)] at hk'
      rcases hE.newM k hk with h5 | h5
      · exact h.apart a b ha hb hab k h5 hk'
      · have := mlt b hb k hk'; omega
    · rw [mo a har] at hk
      by_cases hbr : b = r
      · subst hbr
        rw [ms] at hk'
        rcases hE.newM k hk' with h5 | h5
        · exact h.apart a b ha hb hab k hk h5
        · have := mlt a ha k hk; omega
      · rw [mo b hbr] at hk'
        exact h.apart a b ha hb hab k hk hk'
  · rcases hE.newT k ht with h5 | h5
    · exact (h.out k hk).1 h5
    · have := olt k hk; omega
  · by_cases hsr : s = r
    · subst hsr
      rw [ms] at hm
      rcases hE.newM k hm with h5 | h5
      · exact (h.out k hk).2 s hs h5
      · have := olt k hk; omega
    · rw [mo s hsr] at hm
      exact (h.out k hk).2 s hs hm
  · rcases hk with hk | ⟨s, hs, hk⟩
    · exact .inl (.inl hk)
    · by_cases hsr : s = r
      · subst hsr
        rw [ms] at hk
        rcases hE.newM k hk with h5 | h5
        · exact .inl (.inr ⟨s, hs, h5⟩)
        · exact .inr h5
      · rw [mo s hsr] at hk
        exact .inl (.inr ⟨s, hs, hk⟩)
/-- The row of letters is another one. -/
theorem RcAt.setRow {w3 : World} {rv : Value} {row : List Lt} (h : RcAt w T g x) (hU : Upd g.rv.ownBlock.toList w w3) (hown : OwnX w3 TLt 16 (ltK.holds w3 T) rv row) (hn : ∀ k, rv.ownBlock = some k → g.rv.ownBlock = some k ∨ w.heap.size ≤ k) :
    RcAt (w3.setCell ⟨g.p, 1, none⟩ rv) T { g with rv := rv } ⟨x.n, x.xs, row⟩ ∧ Ext w T (g.M x.n) (w3.setCell ⟨g.p, 1, none⟩ rv) T (({ g with rv := rv } : Rg).M x.n) ∧ w3.heap[g.p]? = some (.cells #[g.lv, g.rv] TRc (0, 0)) := by
  have hz := hU.size
  have hrb : ∀ k ∈ g.rv.ownBlock.toList, g.own k := fun k hk => .inr (.inr (by simpa using hk))
  have pS : g.p ∉ g.rv.ownBlock.toList := fun hk => h.pr (by simpa using hk)
  have hb := hU.get h.blk pS
  have us : Upd [g.p] w3 (w3.setCell ⟨g.p, 1, none⟩ rv) := (Upd.refl [g.p] w3).setCell (p := ⟨g.p, 1, none⟩) (.inl (by simp)) _
  have hall : Upd (g.p :: g.rv.ownBlock.toList) w (w3.setCell ⟨g.p, 1, none⟩ rv) := (hU.mono (by simp +contextual)).trans (us.mono (by simp))
  have ho : ∀ k ∈ g.p :: g.rv.ownBlock.toList, g.own k := fun k hk => by
    rcases List.mem_cons.1 hk with hk | hk
    · exact .inl hk
    · exact hrb k hk
  have nT : ∀ k ∈ g.p :: g.rv.ownBlock.toList, ¬ T k := fun k hk => (h.out k (ho k hk)).1
  have rp : rv.ownBlock ≠ some g.p := fun e => by
    rcases hn _ e with h5 | h5
    · exact h.pr h5
    · have := blk_lt h.blk; omega
  have hsz := hall.size
  refine ⟨⟨?_, ?_, ?_, fun r hr => ?_, h.apart, h.pl, rp, fun k hk hk' => ?_, fun k hk => ?_, fun k hk => Nat.lt_of_lt_of_le (h.ltT k hk) hall.size⟩, ⟨⟨_, fun k hk => .inl (ho k hk), hall⟩, fun _ h => h, fun _ h => .inl h, fun k hk => ?_⟩, hb⟩
  · have := blk_set (i := 1) hb rv
    simpa only [List.setIfInBounds_toArray, List.set_cons_succ, List.set_cons_zero] using this
  · refine Own.upd h.lst hall (fun k hk hm => ?_) fun y cs _ hy => hy
    rcases List.mem_cons.1 hm with hm | hm
    · subst hm; exact h.pl hk
    · exact h.lr k hk (by simpa using hm)
  · refine OwnX.upd hown us (fun k hk hm => ?_) fun y cs _ hy => ltK.upd hy us (fun k hk => nT k (by simp at hk; simp [hk]))
    simp at hm; subst hm; exact rp hk
  · obtain ⟨G, hG⟩ := h.at' r hr
    refine ⟨G, hall.get hG.1 (fun hk => (h.out _ (ho _ hk)).2 r hr hG.2.pM), hG.2.shift hall fun k hk => .inr ⟨fun hm => (h.out k (ho k hk)).2 r hr hm, nT k hk⟩⟩
  · rcases hn k hk' with h5 | h5
    · exact h.lr k hk h5
    · have := (Own.lt h.lst k hk).2; omega
  · rcases hk with hk | hk | hk
    · exact h.out k (.inl hk)
    · exact h.out k (.inr (.inl hk))
    · rcases hn k hk with h5 | h5
      · exact h.out k (.inr (.inr h5))
      · exact ⟨fun ht => by have := h.ltT k ht; omega, fun r hr hm => by have := h.apt.ltM k (.inr ⟨r, hr, hm⟩); omega⟩
  · rcases hk with (hk | hk | hk) | hk
    · exact .inl (.inl (.inl hk))
    · exact .inl (.inl (.inr (.inl hk)))
    · rcases hn k hk with h5 | h5
      · exact .inl (.inl (.inr (.inr h5)))
      · exact .inr h5
    · exact .inl (.inr hk)
end
end Go.Proofs.YtanjnhohfcgapaaGreatDoor.Sg
namespace Go.Proofs.YtanjnhohfcgapaaGreatDoor.Sg
open Go.RowKit Go.Proofs.YtanjnhohfcgapaaGreatDoor.Crc Go.Proofs.YtanjnhohfcgapaaGreatDoor.Cm Go.Proofs.YtanjnhohfcgapaaGreatDoor.Tr Go.Proofs.YtanjnhohfcgapaaGreatDoor.Kv Go.Proofs.YtanjnhohfcgapaaGreatDoor.Au
set_option linter.unusedSimpArgs false
set_option linter.unusedVariables false

/-- A letter's cells, and its value. -/
def ltA (l : Lt) (ks : Value) : Array Value := #[.int .i64 l.1, .int .i64 l.2.1, .int .u8 (l.2.2.kind : Int), .int .u64 (l.2.2.slot : Int), .int .u64 (l.2.2.b.n : Int), .int .i64 l.2.2.b.r, .bool l.2.2.has, .int .u64 (l.2.2.vote.n : Int), .int .i64 l.2.2.vote.r, .int .u32 (l.2.2.cmd.client : Int), .int .u32 (l.2.2.cmd.seq : Int), .int .u8 (l.2.2.cmd.kind : Int), ks, .string (strOf l.2.2.cmd.old), .string (strOf l.2.2.cmd.new), .int .i64 l.2.2.cmd.n]
theorem ltA_eq (l : Lt) (ks : Value) : (ltc l ks).toArray = ltA l ks := rfl
theorem infoLt : (Tryz.prog.info? TLt).map (fun i => (i.zero, i.size, i.bytes)) = some (some (.agg #[.int .i64 0, .int .i64 0, .int .u8 0, .int .u64 0, .int .u64 0, .int .i64 0, .bool false, .int .u64 0, .int .i64 0, .int .u32 0, .int .u32 0, .int .u8 0, .slice none 0 0, .string ⟨#[]⟩, .string ⟨#[]⟩, .int .i64 0]), 16, 152) := by kernel_rfl
theorem lt_cells {w : World} {b : Nat} {l : Lt} {ks : Value} {t : TypeId} (h : w.heap[b]? = some (.cells (ltA l ks) t (0, 0))) :
    w.cell? ⟨b, 0, none⟩ = some (.int .i64 l.1) ∧ w.cell? ⟨b, 1, none⟩ = some (.int .i64 l.2.1) ∧ w.cell? ⟨b, 2, none⟩ = some (.int .u8 (l.2.2.kind : Int)) ∧ w.cell? ⟨b, 3, none⟩ = some (.int .u64 (l.2.2.slot : Int)) ∧ w.cell? ⟨b, 4, none⟩ = some (.int .u64 (l.2.2.b.n : Int)) ∧ w.cell? ⟨b, 5, none⟩ = some (.int .i64 l.2.2.b.r) ∧ w.cell? ⟨b, 6, none⟩ = some (.bool l.2.2.has) ∧ w.cell? ⟨b, 7, none⟩ = some (.int .u64 (l.2.2.vote.n : Int)) ∧ w.cell? ⟨b, 8, none⟩ = some (.int .i64 l.2.2.vote.r) ∧
    w.cell? ⟨b, 9, none⟩ = some (.int .u32 (l.2.2.cmd.client : Int)) ∧ w.cell? ⟨b, 10, none⟩ = some (.int .u32 (l.2.2.cmd.seq : Int)) ∧ w.cell? ⟨b, 11, none⟩ = some (.int .u8 (l.2.2.cmd.kind : Int)) ∧ w.cell? ⟨b, 12, none⟩ = some ks ∧ w.cell? ⟨b, 13, none⟩ = some (.string (strOf l.2.2.cmd.old)) ∧ w.cell? ⟨b, 14, none⟩ = some (.string (strOf l.2.2.cmd.new)) ∧ w.cell? ⟨b, 15, none⟩ = some (.int .i64 l.2.2.cmd.n) :=
  ⟨blk_cell h rfl, blk_cell h rfl, blk_cell h rfl, blk_cell h rfl, blk_cell h rfl, blk_cell h rfl, blk_cell h rfl, blk_cell h rfl, blk_cell h rfl, blk_cell h rfl, blk_cell h rfl, blk_cell h rfl, blk_cell h rfl, blk_cell h rfl, blk_cell h rfl, blk_cell h rfl⟩
theorem lt_src {w : World} {b : Nat} {l : Lt} {ks : Value} {t : TypeId} (h : w.heap[b]? = some (.cells (ltA l ks) t (0, 0))) (h1 : ks.oneCell' = true) : SrcAt w (some ⟨b, 0, none⟩) 1 1 (ltc l ks) 16 := by
  refine ⟨rfl, ?_, by simp, fun a e j u hj => ?_⟩
  · intro u hu
    simp only [ltc, sec, strV, List.mem_cons, List.not_mem_nil, or_false] at hu
    rcases hu with rfl | rfl | rfl | rfl | rfl | rfl | rfl | rfl | rfl | rfl | rfl | rfl | rfl | rfl | rfl | rfl <;> first | rfl | exact h1
  · cases e
    rw [add_plain]
    simp only [World.cell?, h]
    rw [← ltA_eq]
    simpa using hj
theorem RcAt.row_open {w : World} {T : Nat → Prop} {g : Rg} {x : Rc} (h : RcAt w T g x) : ∃ css ao cap, g.rv = .slice ao x.row.length cap ∧ Each (ltK.holds w T) x.row css ∧ (∀ cs ∈ css, cs.length = 16 ∧ ∀ u ∈ cs, u.oneCell' = true) ∧ ownsX w TLt 16 (.slice ao x.row.length cap) x.row.length css.flatten ∧ x.row.length ≤ cap ∧ cap ≤ maxLen := by
  obtain ⟨css, he1, he2, hown⟩ := h.row
  obtain ⟨ao, cap, hv, h1, h2, -⟩ := hown.slice
  rw [hv] at hown
  exact ⟨css, ao, cap, hv, he1, he2, hown, h1, h2⟩
/-- Behind something that a cluster does. -/
def RAft (w : World) (T : Nat → Prop) (g : Rg) (x : Rc) (w' : World) : Prop := ∃ T' g', g'.p = g.p ∧ RcAt w' T' g' x ∧ Ext w T (g.M x.n) w' T' (g'.M x.n)
set_option maxRecDepth 100000 in
set_option maxHeartbeats 4000000 in
theorem behind_any {T : Nat → Prop} {g : Rg} {x : Rc} {l : Lt} {ks : Value} (w : World) (h : RcAt w T g x) (hl : l.2.2.Ok) (hk : Ky w T ks l.2.2.cmd) (hlen : x.row.length ≤ 256) :
    Calls Tryz.prog 115 #[.pointer (some ⟨g.p, 0, none⟩), .agg (ltA l ks)] w fun e w' => e = .returned (.bool (!decide (x.row.length = 256))) ∧ ∃ rv', RcAt w' T { g with rv := rv' } ⟨x.n, x.xs, push1 x.row l⟩ ∧ Ext w T (g.M x.n) w' T (({ g with rv := rv' } : Rg).M x.n) := by
  obtain ⟨xk, ck, rfl⟩ := hk.slice
  have HH := hide h; have K0 := hide hk; have HLO := hide hl
  have hpl := blk_lt h.blk
  clear h hk hl
  unfold ltA
  go_enter Tryz.func115, Tryz.ntmps115
  go_upto_region 1 with fail
  have hB := blk_new w (.cells (ltA l (.slice xk l.2.2.cmd.keys.length ck)) TLt)
  have hal := (Upd.refl [] w).alloc (.cells (ltA l (.slice xk l.2.2.cmd.keys.length ck)) TLt)
  change Code.wp _ _ _ _ (w.alloc (.cells (ltA l (.slice xk l.2.2.cmd.keys.length ck)) TLt))
  generalize w.alloc (.cells (ltA l (.slice xk l.2.2.cmd.keys.length ck)) TLt) = w1 at *
  obtain ⟨B, hBn⟩ : ∃ B, w.heap.size = B := ⟨_, rfl⟩
  rw [hBn] at hB hpl ⊢
  have H1 := hide (HH.out.upd_nil hal); have E1 := hide (Ext.of_nil hal T (g.M x.n)); have K1 := hide (K0.out.upd hal (by simp)); have B1 := hide hB
  have NB : Hid (¬ (g.M x.n) B) := hide (by rw [← hBn]; exact (HH.out.apt.new (Nat.le_refl _)).1)
  clear hB hal hBn K0
  obtain ⟨css, ao, cap, hv, he, hb, hown, hc1, hc2⟩ := H1.out.row_open
  have HV := hide hv; have HEE := hide he; have HBB := hide hb; have OW := hide hown
  have c1 : w1.cell? ⟨g.p, 1, none⟩ = some (.slice ao x.row.length cap) := by rw [← hv]; exact blk_cell H1.out.blk rfl
  simp only [maxLen] at hc2
  clear hv he hb hown
  by_cases hfull : x.row.length = 256
  · have d1 : ((x.row.length : Int) == 256) = true := by rw [hfull]; rfl
    have HF := hide hfull
    clear hfull
    go_wp2_with fail
    go_ret
    refine ⟨by rw [decide_eq_true HF.out]; rfl, g.rv, ?_, E1.out⟩
    unfold push1
    rw [if_pos HF.out]
    exact H1.out
  · have d1 : ((x.row.length : Int) == 256) = false := by simp; omega
    have HF := hide hfull
    clear hfull
    go_upto_region 3 with fail
    clear c1
    obtain ⟨i1, hi1, iz0, iz1, iz2⟩ := info_parts infoLt
    have s0 : (w1.drewN 1).heap[g.p]? = some (.cells #[g.lv, g.rv] TRc (0, 0)) ∧ (w1.drewN 1).heap[B]? = some (.cells (ltA l (.slice xk l.2.2.cmd.keys.length ck)) TLt (0, 0)) := ⟨H1.out.blk, B1.out⟩
    refine wp_region_z (fun wx => wx.heap[g.p]? = some (.cells #[g.lv, g.rv] TRc (0, 0)) ∧ wx.heap[B]? = some (.cells (ltA l (.slice xk l.2.2.cmd.keys.length ck)) TLt (0, 0))) 10 (by kernel_rfl) ?_
    refine zE 0 rfl (by kernel_rfl) (fun _ _ _ _ h => h) rfl (by exact s0) ?_
    apply Exists.intro
    refine ⟨fun wx hS => ?_, ?_⟩
    · go_simp; rfl
    simp only [Act.put, List.setIfInBounds_toArray, List.set_cons_succ, List.set_cons_zero, List.getElem_toArray, List.getElem_cons_zero]
    refine zE 1 rfl (by kernel_rfl) (fun _ _ _ _ h => h) rfl (by exact s0) ?_
    apply Exists.intro
    refine ⟨fun wx hS => ?_, ?_⟩
    · go_simp; rfl
    simp only [Act.put, zz1, zz2, zz3, zz4, zz5, zz6]
    refine zE 2 rfl (by kernel_rfl) (fun _ _ _ _ h => h) rfl (by exact s0) ?_
    apply Exists.intro
    refine ⟨fun wx hS => ?_, ?_⟩
    · go_simp; rfl
    simp only [Act.put, zz1, zz2, zz3, zz4, zz5, zz6]
    refine zE 3 rfl (by kernel_rfl) (fun _ _ _ _ h => h) rfl (by exact s0) ?_
    apply Exists.intro
    refine ⟨fun wx hS => ?_, ?_⟩
    · go_simp; rfl
    simp only [Act.put, zz1, zz2, zz3, zz4, zz5, zz6]
    refine zE 4 rfl (by kernel_rfl) (fun _ _ _ _ h => h) rfl (by exact s0) ?_
    apply Exists.intro
    refine ⟨fun wx hS => ?_, ?_⟩
    · have c0 : wx.cell? ⟨g.p, 1, none⟩ = some (.slice ao x.row.length cap) := (by rw [← HV.out] ; exact blk_cell hS.1 rfl); go_simp; rfl
    simp only [Act.put, zz1, zz2, zz3, zz4, zz5, zz6]
    refine zE 5 rfl (by kernel_rfl) (fun _ _ _ _ h => h) rfl (by exact s0) ?_
    apply Exists.intro
    refine ⟨fun wx hS => ?_, ?_⟩
    · obtain ⟨y0, y1, y2, y3, y4, y5, y6, y7, y8, y9, y10, y11, y12, y13, y14, y15⟩ := lt_cells hS.2; go_simp; rfl
    simp only [Act.put, zz1, zz2, zz3, zz4, zz5, zz6]
    have v0 : Upd [] w1 (w1.drewN 1) := (Upd.refl [] w1).drewN 1
    refine wpAnyZ_one 6 (by kernel_rfl) rfl rfl (fun K hK => ?_)
    try simp only [List.getElem_toArray, List.getElem_cons_succ, List.getElem_cons_zero]
    go_simp
    have hBN := blk_new (w1.drewN 1) (.cells (ltA l (.slice xk l.2.2.cmd.keys.length ck)) TLt)
    have halb := v0.alloc (.cells (ltA l (.slice xk l.2.2.cmd.keys.length ck)) TLt)
    change K _ ((w1.drewN 1).alloc (.cells (ltA l (.slice xk l.2.2.cmd.keys.length ck)) TLt))
    obtain ⟨wb, hwb⟩ : ∃ wb, (w1.drewN 1).alloc (.cells (ltA l (.slice xk l.2.2.cmd.keys.length ck)) TLt) = wb := ⟨_, rfl⟩
    rw [hwb] at hBN halb ⊢
    obtain ⟨Q, hQ⟩ : ∃ Q, (w1.drewN 1).heap.size = Q := ⟨_, rfl⟩
    have hQ' : w1.heap.size = Q := hQ
    rw [hQ] at hBN
    rw [hQ']
    have HB2 := hide (H1.out.upd_nil halb); have EB := hide (E1.out.on halb (by simp)); have BB := hide (halb.get B1.out (by simp)); have KB := hide (K1.out.upd halb (by simp))
    have OWB := hide (OW.out.upd halb (by simp)); have EEB := hide (HEE.out.mono (Q := ltK.holds wb T) fun y cs _ hy => ltK.upd hy halb (by simp))
    have SR := hide (lt_src hBN rfl)
    have hzb := EB.out.size
    have sb : wb.heap[g.p]? = some (.cells #[g.lv, g.rv] TRc (0, 0)) ∧ wb.heap[B]? = some (.cells (ltA l (.slice xk l.2.2.cmd.keys.length ck)) TLt (0, 0)) := ⟨HB2.out.blk, BB.out⟩
    clear hwb hBN halb hQ hQ' H1 E1 B1 K1 OW HEE s0 v0
    refine hK _ _ (.inr sb) ?_
    clear hK K
    try simp only [Act.put, zz1, zz2, zz3]
    refine wpAnyZ_one 7 (by kernel_rfl) rfl rfl (fun K hK => ?_)
    try simp only [List.getElem_toArray, List.getElem_cons_succ, List.getElem_cons_zero]
    refine wp_append_x _ _ 153 rfl TLt i1 (.agg #[.int .i64 0, .int .i64 0, .int .u8 0, .int .u64 0, .int .u64 0, .int .i64 0, .bool false, .int .u64 0, .int .i64 0, .int .u32 0, .int .u32 0, .int .u8 0, .slice none 0 0, .string ⟨#[]⟩, .string ⟨#[]⟩, .int .i64 0]) 16 152 Tryz.underlying153 hi1 iz0 iz1 iz2 rfl (by decide) (.slice ao x.row.length cap) x.row.length css.flatten rfl (by exact OWB.out) (some ⟨Q, 0, none⟩) 1 1 (ltc l (.slice xk l.2.2.cmd.keys.length ck)) (by decide) rfl (by exact SR.out) (by unfold maxLen; omega) (by omega) ?_
    intro ao6 cap6 wc hown6 hU6 hn6
    have hrb : ∀ k ∈ (Value.slice ao x.row.length cap).ownBlock.toList, g.rv.ownBlock = some k := fun k hk => by rw [HV.out]; simpa using hk
    have far : ∀ k ∈ (Value.slice ao x.row.length cap).ownBlock.toList, (g.M x.n) k ∧ ¬ T k := fun k hk => ⟨.inl (.inr (.inr (hrb k hk))), (HB2.out.out k (.inr (.inr (hrb k hk)))).1⟩
    have hk3 : ltK.holds wb T l (ltc l (.slice xk l.2.2.cmd.keys.length ck)) := ⟨HLO.out, _, rfl, KB.out⟩
    have hown4 : OwnX wc TLt 16 (ltK.holds wc T) (.slice ao6 (x.row.length + 1) cap6) (x.row ++ [l]) :=
      OwnX.more (EEB.out.mono (Q := ltK.holds wc T) fun y cs _ hy => ltK.upd hy hU6 fun k hk => (far k hk).2) HBB.out (ltK.upd hk3 hU6 fun k hk => (far k hk).2) rfl (ltK.one hk3) rfl hown6
    have hU7 : Upd g.rv.ownBlock.toList wb wc := by rw [HV.out]; exact hU6
    have hsr := HB2.out.setRow hU7 hown4 (fun k hk => by rw [HV.out]; exact hn6 k hk)
    have HS := hide hsr
    have sc : wc.heap[g.p]? = some (.cells #[g.lv, g.rv] TRc (0, 0)) ∧ wc.heap[B]? = some (.cells (ltA l (.slice xk l.2.2.cmd.keys.length ck)) TLt (0, 0)) := ⟨hsr.2.2, hU6.get BB.out fun hk => NB.out (far B hk).1⟩
    have y4 : wc.cell? ⟨g.p, 1, none⟩ = some (.slice ao x.row.length cap) := by rw [← HV.out]; exact blk_cell sc.1 rfl
    have f4 : wc.frozen? ⟨g.p, 1, none⟩ = false := blk_free sc.1
    clear hown6 hU6 hn6 hrb far hk3 hown4 hU7 hsr sb BB KB OWB EEB SR HBB HB2
    refine hK _ _ (.inr sc) ?_
    clear hK K
    try simp only [Act.put, zz1, zz2, zz3]
    refine wpAnyZ_one 8 (by kernel_rfl) rfl rfl (fun K hK => ?_)
    try simp only [List.getElem_toArray, List.getElem_cons_succ, List.getElem_cons_zero]
    go_simp
    refine hK _ _ (.inr sc) ?_
    clear hK K
    try simp only [Act.put, zz1, zz2, zz3]
    refine wpAnyZ_one 9 (by kernel_rfl) rfl rfl (fun K hK => ?_)
    try simp only [List.getElem_toArray, List.getElem_cons_succ, List.getElem_cons_zero]
    go_simp
    refine hK _ _ (.inr sc) ?_
    clear hK K
    try simp only [Act.put, zz1, zz2, zz3]
    refine wpAnyZ_one 10 (by kernel_rfl) rfl rfl (fun K hK => ?_)
    try simp only [List.getElem_toArray, List.getElem_cons_succ, List.getElem_cons_zero]
    go_simp
    refine hK _ _ (.inl rfl) ?_
    clear hK K
    try simp only [Act.put, zz1, zz2, zz3]
    clear f4 y4 sc
    refine wpAnyZ_done (by kernel_rfl) ?_ _
    go_wp2_with fail
    go_ret
    refine ⟨by rw [decide_eq_false HF.out]; rfl, .slice ao6 (x.row.length + 1) cap6, ?_, EB.out.trans HS.out.2.1⟩
    unfold push1
    rw [if_neg HF.out]
    exact HS.out.1
end Go.Proofs.YtanjnhohfcgapaaGreatDoor.Sg
