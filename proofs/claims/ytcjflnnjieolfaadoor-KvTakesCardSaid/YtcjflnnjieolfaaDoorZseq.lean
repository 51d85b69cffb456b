/- A region that draws its order, whose operations may be taken in the order in which they stand. Over any program. -/
import Derived.Test.YtcjflnnjieolfaaDoorZreg
import Derived.KernelRfl
namespace Go.Proofs.YtcjflnnjieolfaaDoor
section
variable {P : Program} {ops : Array Oper} {Q : Exit → Act → World → Prop} {S : World → Prop} {cs : List Nat}
/-- The first i have come up. -/
def firstL (n i : Nat) : Array Bool := (List.replicate i true ++ List.replicate (n - i) false).toArray
theorem firstL_next {n i : Nat} (h : i < n) : (firstL n i).setIfInBounds i true = firstL n (i + 1) := by
  unfold firstL
  obtain ⟨m, hm⟩ : ∃ m, n - i = m + 1 := ⟨n - i - 1, by omega⟩
  rw [hm, show n - (i + 1) = m by omega, List.setIfInBounds_toArray, List.set_append_right _ _ (by simp), List.length_replicate, Nat.sub_self, List.replicate_succ, List.set_cons_zero, List.replicate_succ', List.append_assoc]
  rfl
theorem firstL_zero (n : Nat) : firstL n 0 = Array.replicate n false := by unfold firstL; simp
/-- What is to be seen of the later ones: each waits for one of those from i on. -/
def aloneB (i : Nat) (os : List Oper) : Bool := os.all fun o => o.after.any fun e => Region.binds .any e && Nat.ble i e.on
/-- What is to be seen of the later ones: each waits for i, or has nothing to do with it. -/
def freeB (ops : Array Oper) (i : Nat) (o : Oper) (os : List Oper) : Bool := os.all fun x => x.after.any (fun e => Region.binds .any e && e.on == i) || o.apart ops x
def seqB (ops : Array Oper) (cs : List Nat) : Nat → List Oper → Bool
  | _, [] => true
  | i, o :: os => (o.after.all fun e => !Region.binds .any e || Nat.blt e.on i) && (if cs.contains i then aloneB i os else freeB ops i o os) && seqB ops cs (i + 1) os
/-- Each of cs comes up alone; the others may be taken first. -/
def seqOk (ops : Array Oper) (cs : List Nat) : Bool := Region.noSelect ops && seqB ops cs 0 ops.toList
theorem firstL_get {n i j : Nat} (hi : i ≤ n) : (firstL n i).getD j true = decide (j < i ∨ n ≤ j) := by
  unfold firstL
  rw [Array.getD_eq_getD_getElem?, List.getElem?_toArray]
  rcases Nat.lt_or_ge j i with h | h
  · rw [List.getElem?_append_left (by simpa using h), List.getElem?_replicate, if_pos h]
    simp [h]
  · rw [List.getElem?_append_right (by simpa using h), List.length_replicate, List.getElem?_replicate]
    by_cases h2 : j < n
    · rw [if_pos (by omega)]
      simp
      omega
    · rw [if_neg (by omega)]
      simp
      omega
theorem firstL_getF {n i j : Nat} (_ : i ≤ n) : (firstL n i).getD j false = decide (j < i) := by
  unfold firstL
  rw [Array.getD_eq_getD_getElem?, List.getElem?_toArray]
  rcases Nat.lt_or_ge j i with h | h
  · rw [List.getElem?_append_left (by simpa using h), List.getElem?_replicate, if_pos h]
    simp [h]
  · rw [List.getElem?_append_right (by simpa using h), List.length_replicate, List.getElem?_replicate]
    split
    · simp; omega
    · simp; omega
theorem seqB_drop {ops : Array Oper} : ∀ (os : List Oper) (i k : Nat), seqB ops cs i os = true → seqB ops cs (i + k) (os.drop k) = true
  | [], _, _, _ => by simp [seqB]
  | o :: os, i, 0, h => h
  | o :: os, i, k + 1, h => by
    simp only [seqB, Bool.and_eq_true] at h
    have := seqB_drop os (i + 1) k h.2
    rw [List.drop_succ_cons, show i + (k + 1) = i + 1 + k by omega]
    exact this
theorem ready_iff {i j : Nat} (hi : i ≤ ops.size) : j ∈ Region.ready .any ops (firstL ops.size i) ↔ i ≤ j ∧ ∃ o, ops[j]? = some o ∧ ∀ e ∈ o.after, Region.binds .any e = true → e.on < i := by
  rw [mem_ready, firstL_get hi]
  constructor
  · rintro ⟨h1, o, ho, h2⟩
    have hj := (Array.getElem?_eq_some_iff.1 ho).1
    refine ⟨by simp at h1; omega, o, ho, fun e he hb => ?_⟩
    have := h2 e he hb
    rw [firstL_getF hi] at this
    simpa using this
  · rintro ⟨h1, o, ho, h2⟩
    have hj := (Array.getElem?_eq_some_iff.1 ho).1
    refine ⟨by simp; omega, o, ho, fun e he hb => ?_⟩
    rw [firstL_getF hi]
    simpa using h2 e he hb
/-- One behind the other. -/
def wpSeq (P : Program) (ops : Array Oper) (Q : Exit → Act → World → Prop) (S : World → Prop) (cs : List Nat) : Nat → List Oper → Act → World → Prop
  | _, [], a, w => Q .normal a w
  | i, o :: os, a, w => Region.wanted o (yielded ops a.tmps) = true ∧ (cs.contains i = true → ∀ K : Act → World → Prop, (∀ a' w', S w' → wpSeq P ops Q S cs (i + 1) os a' w' → K a' w') → o.wp P a w K Q) ∧
      (cs.contains i = false → ∃ v, (∀ w, S w → (execOp a.eval o).run P w = .ok (.value v) w) ∧ wpSeq P ops Q S cs (i + 1) os (a.put o.dst v) w)
theorem wpAnyZ_of_seq (hok : seqOk ops cs = true) (hQ : ∀ c a d v w, Q (.panic c) (a.put d v) w → Q (.panic c) a w) :
    ∀ (k i : Nat) (os : List Oper) (a : Act) (w : World), i + k = ops.size → ops.toList.drop i = os → S w → wpSeq P ops Q S cs i os a w → wpAnyZ P .any ops Q S ops.size k (firstL ops.size i) a w := by
  simp only [seqOk, Bool.and_eq_true] at hok
  obtain ⟨h1, h2⟩ := hok
  intro k
  induction k with
  | zero =>
    intro i os a w hi hos hS h
    have hd : i = ops.size := by omega
    subst hd
    have : os = [] := by rw [← hos]; simp
    subst this
    refine ⟨List.eq_nil_iff_forall_not_mem.2 fun j hj => ?_, h⟩
    obtain ⟨h3, o, ho, -⟩ := (ready_iff (Nat.le_refl _)).1 hj
    have := (Array.getElem?_eq_some_iff.1 ho).1
    omega
  | succ k ih =>
    intro i os a w hi hos hS h
    have hlt : i < ops.size := by omega
    have hlt' : i < ops.toList.length := by simpa using hlt
    have h3 := seqB_drop _ 0 i h2
    rw [Nat.zero_add] at h3
    rw [List.drop_eq_getElem_cons hlt'] at hos h3
    subst hos
    simp only [seqB, Bool.and_eq_true] at h3
    obtain ⟨⟨h4, h5⟩, -⟩ := h3
    obtain ⟨hw, hc, hr⟩ := h
    have hoi : ops[i]? = some ops.toList[i] := by rw [Array.getElem?_eq_getElem hlt]; simp
    have hrd : i ∈ Region.ready .any ops (firstL ops.size i) := (ready_iff (by omega)).2 ⟨Nat.le_refl _, _, hoi, fun e he hb => by
      have := Array.all_eq_true_iff_forall_mem.1 h4 e he
      simpa [hb, Nat.blt_eq] using this⟩
    have later : ∀ j o, ops[j]? = some o → i < j → o ∈ ops.toList.drop (i + 1) := fun j o ho hj => by
      have h6 : ops.toList[j]? = some o := by simpa using ho
      refine List.mem_of_getElem? (i := j - (i + 1)) ?_
      rw [List.getElem?_drop, show i + 1 + (j - (i + 1)) = j by omega]
      exact h6
    cases hci : cs.contains i with
    | true =>
      rw [hci] at h5
      simp only [if_true, aloneB, List.all_eq_true] at h5
      have hal : ∀ j ∈ Region.ready .any ops (firstL ops.size i), j = i := fun j hj => by
        obtain ⟨h6, o, ho, h7⟩ := (ready_iff (by omega)).1 hj
        refine Decidable.byContradiction fun hne => ?_
        obtain ⟨e, he, h8⟩ := Array.any_eq_true'.1 (h5 o (later j o ho (by omega)))
        simp only [Bool.and_eq_true, Nat.ble_eq] at h8
        have := h7 e he h8.1
        omega
      have hone : ∀ K : Act → World → Prop, (∀ a' w', S w' → wpSeq P ops Q S cs (i + 1) (ops.toList.drop (i + 1)) a' w' → K a' w') → (ops.toList[i]).wp P a w K Q := hc hci
      refine ⟨fun h0 => (by rw [h0] at hrd; cases hrd), fun j hj => ?_⟩
      obtain rfl := hal j hj
      unfold wpOp
      rw [hoi]
      simp only [hw, if_true]
      refine .inl (hone _ fun a' w' hS' h6 => ⟨.inr hS', ?_⟩)
      rw [firstL_next hlt]
      exact ih (j + 1) _ a' w' (by omega) rfl hS' h6
    | false =>
      rw [hci] at h5
      simp only [Bool.false_eq_true, if_false, freeB, List.all_eq_true] at h5
      obtain ⟨v, h6, h7⟩ := hr hci
      have hf : Region.free .any ops (firstL ops.size i) i = true := by
        simp only [Region.free, hoi, List.all_eq_true, List.mem_range]
        intro j hj
        rw [firstL_get (by omega)]
        by_cases hji : j = i
        · simp [hji]
        by_cases hlj : j < i
        · simp [hlj]
        have h8 := h5 _ (later j _ (Array.getElem?_eq_getElem hj) (by omega))
        rw [Array.getElem?_eq_getElem hj]
        simp only [Bool.or_eq_true] at h8 ⊢
        exact .inr h8
      refine wpAnyZ_take i hoi h1 (by simp [waitsB]) hf (by simpa using hrd) (fun c a w => hQ c a _ v w) hw hS h6 ?_
      rw [firstL_next hlt]
      exact ih (i + 1) _ _ w (by omega) rfl hS h7
theorem wp_region_seq {id : Nat} {a : Act} {w : World} {os : List Oper} (ops : Array Oper) (he : os.toArray = ops) (cs : List Nat) (S : World → Prop) (hm : P.follows .mixedOrders = true) (hok : seqOk ops cs = true) (hQ : ∀ c a d v w, Q (.panic c) (a.put d v) w → Q (.panic c) a w)
    (hS : S (w.drewN 1)) (h : wpSeq P ops Q S cs 0 os a (w.drewN 1)) : (Code.region id os.toArray true).wp P Q a w := by
  subst he
  refine wp_region_z S (os.toArray.size) hm ?_
  rw [← firstL_zero]
  exact wpAnyZ_of_seq hok hQ _ 0 os a _ (by simp) (by simp) hS h
theorem wpSeq_take {i : Nat} {o : Oper} {os : List Oper} {a : Act} {w : World} (hw : Region.wanted o (yielded ops a.tmps) = true) (hi : cs.contains i = false)
    (h : ∃ v, (∀ w, S w → (execOp a.eval o).run P w = .ok (.value v) w) ∧ ∀ a', a.put o.dst v = a' → wpSeq P ops Q S cs (i + 1) os a' w) : wpSeq P ops Q S cs i (o :: os) a w := by
  obtain ⟨v, h1, h2⟩ := h
  exact ⟨hw, fun h => (by rw [hi] at h; cases h), fun _ => ⟨v, h1, h2 _ rfl⟩⟩
theorem wpSeq_one {i : Nat} {o : Oper} {os : List Oper} {a : Act} {w : World} (hw : Region.wanted o (yielded ops a.tmps) = true) (hi : cs.contains i = true)
    (h : ∀ K : Act → World → Prop, (∀ a' w', S w' → wpSeq P ops Q S cs (i + 1) os a' w' → K a' w') → o.wp P a w K Q) : wpSeq P ops Q S cs i (o :: os) a w :=
  ⟨hw, fun _ => h, fun h => (by rw [hi] at h; cases h)⟩
/-- The operations of the region that a function ends with. -/
def tailOps : Code → Array Oper
  | .seq (.region _ ops _) .ret => ops
  | .seq _ b => tailOps b
  | _ => #[]
end
end Go.Proofs.YtcjflnnjieolfaaDoor
