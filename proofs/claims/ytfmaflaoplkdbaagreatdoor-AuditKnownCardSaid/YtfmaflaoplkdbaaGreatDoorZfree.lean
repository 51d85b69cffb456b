/- A region that draws its order, whose operations may come in any order that their edges leave: what each yields has a property of its own, which stays whatever is made later. Over any program. -/
import Derived.Test.YtfmaflaoplkdbaaGreatDoorGenAll
set_option linter.unusedSimpArgs false
set_option linter.unusedVariables false
set_option linter.unnecessarySimpa false
namespace Go.Proofs.YtfmaflaoplkdbaaGreatDoor
/-- Slots that have been filled. -/
def setL (f : Nat → Option Value) : Nat → List Value → List Value
  | _, [] => []
  | n, x :: xs => (f n).getD x :: setL f (n + 1) xs
theorem setL_congr {f g : Nat → Option Value} : ∀ {xs : List Value} {n : Nat}, (∀ s, n ≤ s → f s = g s) → setL f n xs = setL g n xs
  | [], _, _ => rfl
  | x :: xs, n, h => by
    unfold setL
    rw [h n (Nat.le_refl _), setL_congr fun s hs => h s (by omega)]
theorem setL_set {f : Nat → Option Value} {v : Value} : ∀ {xs : List Value} {n d : Nat}, (setL f n xs).set d v = setL (fun s => if s = n + d then some v else f s) n xs
  | [], _, _ => by simp [setL]
  | x :: xs, n, 0 => by
    unfold setL
    simp only [List.set_cons_zero, Nat.add_zero, if_true, Option.getD_some]
    congr 1
    exact setL_congr fun s hs => by rw [if_neg (by omega)]
  | x :: xs, n, d + 1 => by
    unfold setL
    rw [List.set_cons_succ, setL_set, if_neg (by omega)]
    congr 2
    funext s
    rw [show n + 1 + d = n + (d + 1) by omega]
theorem setL_get {f : Nat → Option Value} : ∀ {xs : List Value} {n k : Nat}, (setL f n xs)[k]? = xs[k]?.map fun x => (f (n + k)).getD x
  | [], _, _ => by simp [setL]
  | x :: xs, n, 0 => by simp [setL]
  | x :: xs, n, k + 1 => by
    unfold setL
    rw [List.getElem?_cons_succ, setL_get, List.getElem?_cons_succ, show n + 1 + k = n + (k + 1) by omega]
def actF (L : List Value) (D : List Deferred) (f : Nat → Option Value) : Act := { tmps := (setL f 0 L).toArray, defers := D }
theorem actF_put {L : List Value} {D : List Deferred} {f : Nat → Option Value} {d : Nat} {v : Value} : (actF L D f).put (some d) v = actF L D fun s => if s = d then some v else f s := by
  unfold actF Act.put
  simp only [List.setIfInBounds_toArray, setL_set, Nat.zero_add]
theorem actF_eval {L : List Value} {D : List Deferred} {f : Nat → Option Value} {k : Nat} : (actF L D f).eval (.tmp k) = (L[k]?.map fun x => (f k).getD x).getD undef := by
  show (setL f 0 L).toArray.getD k undef = _
  rw [Array.getD_eq_getD_getElem?, List.getElem?_toArray, setL_get, Nat.zero_add]
theorem actF_some {L : List Value} {D : List Deferred} {f : Nat → Option Value} {k : Nat} {v : Value} (hk : k < L.length) (h : f k = some v) : (actF L D f).eval (.tmp k) = v := by
  rw [actF_eval, List.getElem?_eq_getElem hk, h]
  rfl
theorem actF_none {L : List Value} {D : List Deferred} {f : Nat → Option Value} {k : Nat} {v : Value} (hk : L[k]? = some v) (h : f k = none) : (actF L D f).eval (.tmp k) = v := by
  rw [actF_eval, hk, h]
  rfl
def cntF : List Bool → Nat
  | [] => 0
  | b :: l => (if b then 0 else 1) + cntF l
theorem cntF_set : ∀ {l : List Bool} {i : Nat}, l[i]? = some false → cntF (l.set i true) + 1 = cntF l
  | [], i, h => by simp at h
  | b :: l, 0, h => by simp at h; subst h; simp [cntF]; omega
  | b :: l, i + 1, h => by
    have := cntF_set (l := l) (i := i) (by simpa using h)
    simp only [List.set_cons_succ, cntF]
    omega
theorem cntF_zero : ∀ {l : List Bool} {i : Nat}, cntF l = 0 → l[i]? ≠ some false
  | [], i, _, h => by simp at h
  | b :: l, 0, hc, h => by simp at h; subst h; simp [cntF] at hc
  | b :: l, i + 1, hc, h => by
    unfold cntF at hc
    exact cntF_zero (l := l) (i := i) (by omega) (by simpa using h)
theorem cntF_rep : ∀ n, cntF (List.replicate n false) = n
  | 0 => rfl
  | n + 1 => by rw [List.replicate_succ]; unfold cntF; rw [cntF_rep n]; simp; omega
section
variable {P : Program} {ops : Array Oper} {Q : Exit → Act → World → Prop} {L : List Value} {D : List Deferred} {w0 : World} {dst : Nat → Nat} {Pr : Nat → Value → World → Prop}
/-- What is asked of such a region. -/
structure Free (P : Program) (ops : Array Oper) (Q : Exit → Act → World → Prop) (L : List Value) (D : List Deferred) (w0 : World) (dst : Nat → Nat) (Pr : Nat → Value → World → Prop) : Prop where
  mono : ∀ i v w w', Pr i v w → Upd [] w w' → Pr i v w'
  dsts : ∀ i o, ops[i]? = some o → o.dst = some (dst i) ∧ o.guard = none ∧ ∀ e ∈ o.after, e.on < i
  inj : ∀ i j, i < ops.size → j < ops.size → dst i = dst j → i = j
  step : ∀ i o, ops[i]? = some o → ∀ f w, Upd [] w0 w → (∀ e ∈ o.after, Region.binds .any e = true → ∃ v, f (dst e.on) = some v ∧ Pr e.on v w) → (∀ s, (∀ j, j < ops.size → dst j ≠ s) → f s = none) →
    ∀ K : Act → World → Prop, (∀ v w', Pr i v w' → Upd [] w w' → K ((actF L D f).put (some (dst i)) v) w') → o.wp P (actF L D f) w K Q
  post : ∀ f w, Upd [] w0 w → (∀ i, i < ops.size → ∃ v, f (dst i) = some v ∧ Pr i v w) → (∀ s, (∀ j, j < ops.size → dst j ≠ s) → f s = none) → Q .normal (actF L D f) w
theorem getD_any {l : Array Bool} {i : Nat} (h : i < l.size) (b c : Bool) : l.getD i b = l.getD i c := by simp [h]
theorem Free.all (hF : Free P ops Q L D w0 dst Pr) {listed : Array Bool} (hz : listed.size = ops.size) (h : Region.ready .any ops listed = []) : ∀ i, i < ops.size → listed.getD i true = true := by
  intro i
  induction i using Nat.strongRecOn with
  | ind i ih =>
    intro hi
    refine Decidable.byContradiction fun hn => ?_
    have hm : i ∈ Region.ready .any ops listed := mem_ready.2 ⟨by simpa using hn, ops[i], Array.getElem?_eq_getElem hi, fun e he _ => by
      have hlt := (hF.dsts i _ (Array.getElem?_eq_getElem hi)).2.2 e he
      have h1 := ih e.on hlt (by omega)
      rw [getD_any (by omega) false true]
      exact h1⟩
    rw [h] at hm
    cases hm
/-- What is known on the way. -/
structure FreeAt (ops : Array Oper) (w0 : World) (dst : Nat → Nat) (Pr : Nat → Value → World → Prop) (listed : Array Bool) (f : Nat → Option Value) (w : World) : Prop where
  size : listed.size = ops.size
  upd : Upd [] w0 w
  has : ∀ i, i < ops.size → listed.getD i true = true → ∃ v, f (dst i) = some v ∧ Pr i v w
  rest : ∀ s, (∀ j, j < ops.size → dst j ≠ s) → f s = none
theorem wpAnyZ_free (hF : Free P ops Q L D w0 dst Pr) : ∀ (fuel : Nat) (listed : Array Bool) (f : Nat → Option Value) (w : World), cntF listed.toList ≤ fuel → FreeAt ops w0 dst Pr listed f w → wpAnyZ P .any ops Q (fun _ => True) ops.size fuel listed (actF L D f) w := by
  intro fuel
  induction fuel with
  | zero =>
    intro listed f w hc h
    have hall : ∀ i, i < ops.size → listed.getD i true = true := fun i hi => by
      have h1 := cntF_zero (l := listed.toList) (i := i) (by omega)
      have h2 : i < listed.size := by rw [h.size]; exact hi
      rw [Array.getElem?_toList, Array.getElem?_eq_getElem h2] at h1
      simp only [Array.getD, h2, dif_pos]
      simpa using h1
    refine ⟨List.eq_nil_iff_forall_not_mem.2 fun i hi => ?_, hF.post f w h.upd (fun i hi => h.has i hi (hall i hi)) h.rest⟩
    obtain ⟨h1, o, ho, -⟩ := mem_ready.1 hi
    rw [hall i (Array.getElem?_eq_some_iff.1 ho).1] at h1
    cases h1
  | succ fuel ih =>
    intro listed f w hc h
    refine ⟨fun h0 => hF.post f w h.upd (fun i hi => h.has i hi (hF.all h.size h0 i hi)) h.rest, fun i hi => ?_⟩
    obtain ⟨hun, o, ho, haft⟩ := mem_ready.1 hi
    have hil := (Array.getElem?_eq_some_iff.1 ho).1
    have hls : i < listed.size := by rw [h.size]; exact hil
    obtain ⟨hd, hg, hback⟩ := hF.dsts i o ho
    unfold wpOp
    rw [ho]
    have hw : Region.wanted o (yielded ops (actF L D f).tmps) = true := by unfold Region.wanted; rw [hg]
    simp only [hw, if_true]
    refine .inl (hF.step i o ho f w h.upd (fun e he hb => ?_) h.rest _ fun v w' hv hu => ⟨.inr trivial, ?_⟩)
    · have h1 := haft e he hb
      have h2 := hback e he
      exact h.has e.on (by omega) (by rw [getD_any (by omega) true false]; exact h1)
    · rw [actF_put]
      have hf : listed.toList[i]? = some false := by
        rw [Array.getElem?_toList, Array.getElem?_eq_getElem hls]
        simp only [Array.getD, hls, dif_pos] at hun
        simpa using hun
      refine ih _ _ w' ?_ ⟨by simp [h.size], h.upd.trans hu, fun j hj hl => ?_, fun s hs => ?_⟩
      · have := cntF_set hf
        rw [Array.toList_setIfInBounds]
        omega
      · by_cases hji : j = i
        · subst hji
          exact ⟨v, if_pos rfl, hv⟩
        · have hjl : listed.getD j true = true := by
            rw [getD_set_ne true (Ne.symm hji)] at hl
            exact hl
          obtain ⟨u, h1, h2⟩ := h.has j hj hjl
          exact ⟨u, by rw [if_neg (fun e => hji (hF.inj j i hj hil e))]; exact h1, hF.mono j u w w' h2 hu⟩
      · rw [if_neg (fun e => hs i hil e.symm)]
        exact h.rest s hs
theorem setL_none : ∀ (xs : List Value) (n : Nat), setL (fun _ => none) n xs = xs
  | [], _ => rfl
  | x :: xs, n => by
    unfold setL
    rw [setL_none]
    rfl
theorem wp_region_free {id : Nat} {w : World} (hm : P.follows .mixedOrders = true) (hF : Free P ops Q L D (w.drewN 1) dst Pr) : (Code.region id ops true).wp P Q { tmps := L.toArray, defers := D } w := by
  refine wp_region_z (fun _ => True) ops.size hm ?_
  have h := wpAnyZ_free hF ops.size (Array.replicate ops.size false) (fun _ => none) (w.drewN 1) (by rw [Array.toList_replicate, cntF_rep]; exact Nat.le_refl _) ⟨by simp, Upd.refl _ _, fun i hi hl => by simp [Array.getD, hi] at hl, fun _ _ => rfl⟩
  unfold actF at h
  rw [setL_none] at h
  exact h
theorem wp_region_freeE {id : Nat} {os : Array Oper} {a : Act} {w : World} (ops : Array Oper) (he : os = ops) (L : List Value) (D : List Deferred) (ha : a = { tmps := L.toArray, defers := D }) (hm : P.follows .mixedOrders = true) (hF : Free P ops Q L D (w.drewN 1) dst Pr) : (Code.region id os true).wp P Q a w := by
  subst he ha
  exact wp_region_free hm hF
end
end Go.Proofs.YtfmaflaoplkdbaaGreatDoor
