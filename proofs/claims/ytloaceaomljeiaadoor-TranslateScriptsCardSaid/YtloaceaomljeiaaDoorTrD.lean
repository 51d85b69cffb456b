/- slices.Delete of one command. -/
import Derived.Test.YtloaceaomljeiaaDoorTrE
namespace Go.Proofs.YtloaceaomljeiaaDoor.Tr
open Go.RowKit Go.Lib Go.Proofs.YtloaceaomljeiaaDoor.Crc Go.Proofs.YtloaceaomljeiaaDoor.Cm Go.Proofs.YtloaceaomljeiaaDoor.Var

theorem zeroC (w : World) : (zeroValue 43).run Tryd.prog w = .ok (.agg ZA) w := by kernel_rfl
theorem sizeC : ∀ w, (sizeOf TCmd).run Tryd.prog w = .ok 7 w := fun w => by kernel_rfl
theorem run_clear1 (w : World) (ty : TypeId) (g o c : Nat) (cur : Array Value) (t : TypeId) (hg : w.heap[g]? = some (.cells cur t (0, 0))) (hfit : o + 7 ≤ cur.size) :
    (Builtin.clear_ #[27] ty #[.slice (some ⟨g, o, none⟩) 1 c]).run Tryd.prog w = .ok (.tuple #[]) (w.setRow g (cur.toList.take o ++ ZA.toList ++ cur.toList.drop (o + 7)).toArray) := by
  have hz : (Builtin.zeroCells ZA 1).toList = ZA.toList := by
    have h7 : ZA.size = 7 := rfl
    simp only [Builtin.zeroCells, h7, Nat.one_mul, Array.toList_map, Array.toList_range, show List.range 7 = [0, 1, 2, 3, 4, 5, 6] from rfl, List.map_cons, List.map_nil]
    rfl
  have hst := run_storeCells_at Tryd.prog g o t ZA.toList 0 cur w hg (by simpa using hfit) (by simp [Value.oneCell'])
  have hl : ZA.toList.length = 7 := rfl
  simp only [Nat.add_zero, hl] at hst
  unfold Builtin.clear_
  simp only [List.getElem?_toArray, List.getElem?_cons_zero, Sem.run_bind, run_underlying Tryd.underlying27, Result.andThen_ok, zeroC, Value.cells, hz, hst, Sem.run_pure]
theorem wp_append_run {P : Program} {w w' : World} {o : Oper} {a : Act} {K : Act → World → Prop} {Q : Exit → Act → World → Prop} (s x : Operand) (t : TypeId)
    (ho : o.op = .call { callee := .builtin .append, args := #[s, x], argTypes := #[t, t] }) (v u r : Value) (hs : a.eval s = v) (hx : a.eval x = u)
    (hr : (Builtin.append_ #[t, t] o.type #[v, u]).run P w = .ok r w') (h : K (a.put o.dst r) w') : Oper.wp P o a w K Q := by
  unfold Oper.wp execOp
  simp only [ho, resolve, invoke, builtin, Sem.run_bind, Sem.run_pure, Result.andThen_ok, List.map_toArray, List.map_cons, List.map_nil, hs, hx, hr]
  exact h
theorem erase_split {X : Type} (l : List X) (i : Nat) : l.eraseIdx i = l.take i ++ l.drop (i + 1) := List.eraseIdx_eq_take_drop_succ l i
theorem run_cutz_lhm {P : Program} (t e : TypeId) (z : Nat) (ht : P.underlying t = some (.slice e)) (hz : ∀ w, (sizeOf e).run P w = .ok z w) (xo : Option Addr) (m c : Nat) (l h q : Nat) (i j k : Int) (hi : i = l) (hj : j = h) (hk : k = q) (h1 : l ≤ h) (h2 : h ≤ q) (h3 : q ≤ c) (w : World) : (Instr.slice t (.slice xo m c) (some (.int .i64 i)) (some (.int .i64 j)) (some (.int .i64 k))).run P w = .ok (.slice (cutZ z xo l q) (h - l) (q - l)) w := by
  subst hi; subst hj; subst hk
  have hel : P.elem t = e := by simp [Program.elem, ht]
  rw [run_slice_lhm (P := P) w t xo m c (by rw [hel]; exact ht) .i64 .i64 .i64 l h q (by omega) (by omega) (by omega) (by omega), hel, hz]
  simp [Result.andThen, sliced, cutZ]
set_option maxRecDepth 100000 in
set_option maxHeartbeats 4000000 in
theorem delete_any {base i cap : Nat} {ao : Option Addr} {css : List (List Value)} (w : World) (hz : ∀ cs ∈ css, cs.length = 7) (h1 : ∀ u ∈ css.flatten, u.oneCell' = true) (ho : w.ownsRow base TCmd 7 (.slice ao css.length cap) css.length css.flatten) (hi : i < css.length) :
    Calls Tryd.prog 30 #[.slice ao css.length cap, .int .i64 (i : Int), .int .i64 ((i + 1 : Nat) : Int)] w fun e w' => e = .returned (.slice ao (css.length - 1) cap) ∧ w'.ownsRow base TCmd 7 (.slice ao (css.length - 1) cap) (css.length - 1) (css.eraseIdx i).flatten ∧ Upd (Value.slice ao css.length cap).ownBlock.toList w w' := by
  obtain ⟨hol, h0 | ⟨G, cp, cur, e1, hbG, hg, hnc, hcm, hcs, htk⟩⟩ := ho
  · have := h0.2; omega
  cases e1
  obtain ⟨n, hn⟩ : ∃ n, css.length = n := ⟨_, rfl⟩
  rw [hn] at hi hnc htk hol ⊢
  have hfl := flat_len hz
  obtain ⟨i1, hi1, iz0, iz1, iz2⟩ := info_parts infoC
  have e2 : ((i + 1 : Nat) : Int) = (i : Int) + 1 := by omega
  rw [e2]
  simp only [maxLen] at hcm
  have q0 : ((i : Int) == (i : Int) + 1) = false := by simp; omega
  have hcutz : ∀ l, l < cap → cutZ 7 (some ⟨G, 0, none⟩) l cap = some ⟨G, l * 7, none⟩ := fun l hl => by
    unfold cutZ; rw [if_neg (by omega)]; exact congrArg some (add_plain _ _)
  have s1 := run_cutz_lhm (P := Tryd.prog) 27 TCmd 7 Tryd.underlying27 sizeC (some ⟨G, 0, none⟩) n cap i (i + 1) n (i : Int) ((i : Int) + 1) (n : Int) rfl (by omega) rfl (by omega) (by omega) hnc
  have s2 := run_cutz_h (P := Tryd.prog) 27 TCmd 7 Tryd.underlying27 sizeC (some ⟨G, 0, none⟩) n cap i (i : Int) rfl (by omega)
  have s3 := run_cutz_l (P := Tryd.prog) 27 TCmd 7 Tryd.underlying27 sizeC (some ⟨G, 0, none⟩) n cap (i + 1) ((i : Int) + 1) (by omega) (by omega)
  have s4 := run_cutz_lh (P := Tryd.prog) 27 TCmd 7 Tryd.underlying27 sizeC (some ⟨G, 0, none⟩) (n - 1) cap (n - 1) n ((n - 1 : Nat) : Int) (n : Int) rfl rfl (by omega) (by omega)
  rw [hcutz (n - 1) (by omega), show n - (n - 1) = 1 by omega] at s4
  have hnl : ((css.drop (i + 1)).flatten).length = (n - (i + 1)) * 7 := by rw [flat_len (fun cs h => hz cs (List.mem_of_mem_drop h)), List.length_drop, hn]
  have hn1 : ∀ u ∈ (css.drop (i + 1)).flatten, u.oneCell' = true := fun u hu => by
    obtain ⟨cs, hc, hu'⟩ := List.mem_flatten.1 hu
    exact h1 u (List.mem_flatten.2 ⟨cs, List.mem_of_mem_drop hc, hu'⟩)
  obtain ⟨a, ha, hnews⟩ : ∃ a, cutZ 7 (some ⟨G, 0, none⟩) (i + 1) cap = some a ∧ ∀ j u, (css.drop (i + 1)).flatten[j]? = some u → (w.drewN 1).cell? (a.add j) = some u := by
    by_cases hci : i + 1 < cap
    · refine ⟨_, hcutz _ hci, fun j u hj => ?_⟩
      have hp : (⟨G, (i + 1) * 7, none⟩ : Addr).add j = ⟨G, (i + 1) * 7 + j, none⟩ := by unfold Addr.add; split <;> simp_all
      rw [hp]
      rw [flat_drop hz, List.getElem?_drop] at hj
      rw [← htk, List.getElem?_take] at hj
      split at hj
      · have hg' : (w.drewN 1).heap[G]? = some (.cells cur TCmd (0, 0)) := hg
        simp only [World.cell?, hg']
        simpa using hj
      · cases hj
    · refine ⟨⟨G, 0, none⟩, by unfold cutZ; rw [if_pos (by omega)], fun j u hj => ?_⟩
      have := (List.getElem?_eq_some_iff.1 hj).1
      rw [hnl] at this
      omega
  rw [ha] at s3
  have him : i + (n - (i + 1)) = n - 1 := by omega
  have hap := run_append_room (P := Tryd.prog) (w.drewN 1) 27 27 TCmd i1 Tryd.underlying27 hi1 G i cap cur hg a (n - (i + 1)) (cap - (i + 1)) (css.drop (i + 1)).flatten (by rw [hnl, iz1]) hnews hn1 (by omega) (by rw [iz1, hnl, hcs, ← Nat.add_mul]; exact Nat.mul_le_mul_right _ (by omega))
  rw [him, iz1, hnl] at hap
  obtain ⟨cur1, hcur1⟩ : ∃ cur1, (cur.toList.take (i * 7) ++ (css.drop (i + 1)).flatten ++ cur.toList.drop (i * 7 + (n - (i + 1)) * 7)).toArray = cur1 := ⟨_, rfl⟩
  rw [hcur1] at hap
  have htl : cur.toList.length = cap * 7 := by rw [Array.length_toList, hcs]
  have hi7 : i * 7 ≤ n * 7 := Nat.mul_le_mul_right _ (by omega)
  have hn7 : n * 7 ≤ cap * 7 := Nat.mul_le_mul_right _ hnc
  have htki : cur.toList.take (i * 7) = (css.take i).flatten := by rw [flat_take hz, ← htk, List.take_take, Nat.min_eq_left hi7]
  have hc1l : cur1.toList = (css.eraseIdx i).flatten ++ cur.toList.drop (i * 7 + (n - (i + 1)) * 7) := by
    rw [← hcur1, htki, erase_split, List.flatten_append]
  have herl : (css.eraseIdx i).flatten.length = (n - 1) * 7 := by
    rw [flat_len (fun cs h => hz cs (List.mem_of_mem_eraseIdx h)), List.length_eraseIdx, if_pos (by omega), hn]
  have hc1s : cur1.size = cap * 7 := by
    rw [← Array.length_toList, hc1l, List.length_append, herl, List.length_drop, htl, ← Nat.add_mul, ← Nat.sub_mul, ← Nat.add_mul]
    congr 1
    omega
  have hg5 : ((w.drewN 1).setRow G cur1).heap[G]? = some (.cells cur1 TCmd (0, 0)) := setRow_heap _ G cur cur1 _ _ hg
  have hu5 := ((Upd.refl [G] w).drewN 1).trans (upd_setRow (w.drewN 1) G cur1)
  generalize (w.drewN 1).setRow G cur1 = w5 at *
  have hcl := run_clear1 w5 0 G ((n - 1) * 7) (cap - (n - 1)) cur1 TCmd hg5 (by rw [hc1s, show (n - 1) * 7 + 7 = n * 7 by omega]; exact hn7)
  obtain ⟨cur2, hcur2⟩ : ∃ cur2, (cur1.toList.take ((n - 1) * 7) ++ ZA.toList ++ cur1.toList.drop ((n - 1) * 7 + 7)).toArray = cur2 := ⟨_, rfl⟩
  rw [hcur2] at hcl
  have hg6 : (w5.setRow G cur2).heap[G]? = some (.cells cur2 TCmd (0, 0)) := setRow_heap _ G cur1 cur2 _ _ hg5
  have hu6 := hu5.trans (upd_setRow w5 G cur2)
  have hc2t : cur2.toList.take ((n - 1) * 7) = (css.eraseIdx i).flatten := by
    have hlt : (cur1.toList.take ((n - 1) * 7)).length = (n - 1) * 7 := by rw [List.length_take, Array.length_toList, hc1s]; exact Nat.min_eq_left (Nat.mul_le_mul_right _ (by omega))
    rw [← hcur2, List.append_assoc, List.take_left' hlt, hc1l, List.take_left' herl]
  have hc2s : cur2.size = cap * 7 := by
    rw [← hcur2, List.size_toArray, List.length_append, List.length_append, List.length_take, List.length_drop, Array.length_toList, hc1s]
    have : ZA.toList.length = 7 := rfl
    rw [this]
    have : (n - 1) * 7 + 7 = n * 7 := by omega
    omega
  generalize w5.setRow G cur2 = w6 at *
  have OWN : Hid (w6.ownsRow base TCmd 7 (.slice (some ⟨G, 0, none⟩) (n - 1) cap) (n - 1) (css.eraseIdx i).flatten) := hide ⟨herl, .inr ⟨G, cap, cur2, rfl, hbG, hg6, by omega, by unfold maxLen; omega, hc2s, hc2t⟩⟩
  have U6 := hide hu6
  clear hg hg5 hg6 hu5 hu6 hc1l hc1s hc2s hc2t hcur1 hcur2 htk hnews hn1 h1 hz hol hfl hcutz ha htl htki herl hcs hnl him
  go_enter Tryd.func30, Tryd.ntmps30
  go_wp2_with fail
  refine wp_region_z (fun _ => True) 99 (by kernel_rfl) ?_
  refine wpAnyZ_takeE 0 rfl (by kernel_rfl) (by kernel_rfl) (by kernel_rfl) (by kernel_rfl) (fun _ _ _ _ h => h) rfl (by exact trivial) ?_
  apply Exists.intro
  refine ⟨fun wx hS => ?_, ?_⟩
  · have s0 := hS; go_simp; rfl
  simp only [Act.put, List.setIfInBounds_toArray, List.set_cons_succ, List.set_cons_zero, List.getElem_toArray, List.getElem_cons_zero]
  refine wpAnyZ_takeE 1 rfl (by kernel_rfl) (by kernel_rfl) (by kernel_rfl) (by kernel_rfl) (fun _ _ _ _ h => h) rfl (by exact trivial) ?_
  apply Exists.intro
  refine ⟨fun wx hS => ?_, ?_⟩
  · have s0 := hS; go_simp; rfl
  simp only [Act.put, List.setIfInBounds_toArray, List.set_cons_succ, List.set_cons_zero, List.getElem_toArray, List.getElem_cons_succ, List.getElem_cons_zero]
  refine wpAnyZ_takeE 2 rfl (by kernel_rfl) (by kernel_rfl) (by kernel_rfl) (by kernel_rfl) (fun _ _ _ _ h => h) rfl (by exact trivial) ?_
  apply Exists.intro
  refine ⟨fun wx hS => ?_, ?_⟩
  · have s0 := hS; go_simp; rfl
  simp only [Act.put, List.setIfInBounds_toArray, List.set_cons_succ, List.set_cons_zero, List.getElem_toArray, List.getElem_cons_succ, List.getElem_cons_zero]
  refine wpAnyZ_takeE 3 rfl (by kernel_rfl) (by kernel_rfl) (by kernel_rfl) (by kernel_rfl) (fun _ _ _ _ h => h) rfl (by exact trivial) ?_
  apply Exists.intro
  refine ⟨fun wx hS => ?_, ?_⟩
  · have s0 := hS; go_simp; rfl
  simp only [Act.put, List.setIfInBounds_toArray, List.set_cons_succ, List.set_cons_zero, List.getElem_toArray, List.getElem_cons_succ, List.getElem_cons_zero]
  refine wpAnyZ_takeE 4 rfl (by kernel_rfl) (by kernel_rfl) (by kernel_rfl) (by kernel_rfl) (fun _ _ _ _ h => h) rfl (by exact trivial) ?_
  apply Exists.intro
  refine ⟨fun wx hS => ?_, ?_⟩
  · have s0 := hS; go_simp; rfl
  simp only [Act.put, List.setIfInBounds_toArray, List.set_cons_succ, List.set_cons_zero, List.getElem_toArray, List.getElem_cons_succ, List.getElem_cons_zero]
  refine wpAnyZ_takeE 5 rfl (by kernel_rfl) (by kernel_rfl) (by kernel_rfl) (by kernel_rfl) (fun _ _ _ _ h => h) rfl (by exact trivial) ?_
  apply Exists.intro
  refine ⟨fun wx hS => ?_, ?_⟩
  · have s0 := hS; go_simp; rfl
  simp only [Act.put, List.setIfInBounds_toArray, List.set_cons_succ, List.set_cons_zero, List.getElem_toArray, List.getElem_cons_succ, List.getElem_cons_zero]
  refine wpAnyZ_one 6 (by kernel_rfl) rfl rfl (fun K hK => ?_)
  try simp only [List.getElem_toArray, List.getElem_cons_succ, List.getElem_cons_zero]
  refine wp_append_run _ _ 27 rfl _ _ _ rfl rfl hap ?_
  refine hK _ _ (.inr trivial) ?_
  clear hK K
  try simp only [Act.put, List.setIfInBounds_toArray, List.set_cons_succ, List.set_cons_zero]
  refine wpAnyZ_one 7 (by kernel_rfl) rfl rfl (fun K hK => ?_)
  try simp only [List.getElem_toArray, List.getElem_cons_succ, List.getElem_cons_zero]
  go_simp
  refine hK _ _ (.inr trivial) ?_
  clear hK K
  try simp only [Act.put, List.setIfInBounds_toArray, List.set_cons_succ, List.set_cons_zero]
  refine wpAnyZ_done (by kernel_rfl) ?_ _
  go_wp2_with fail
  go_ret
  exact ⟨rfl, OWN.out, by simpa [Value.ownBlock] using U6.out⟩
end Go.Proofs.YtloaceaomljeiaaDoor.Tr
