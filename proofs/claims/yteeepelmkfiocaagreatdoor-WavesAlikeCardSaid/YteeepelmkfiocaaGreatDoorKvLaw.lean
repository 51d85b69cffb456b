/- What commands do, bounded; an application does a command once. No program here. -/
import Derived.Test.YteeepelmkfiocaaGreatDoorKvMo
import Derived.Lib.ItoaLen
namespace Go.Proofs.YteeepelmkfiocaaGreatDoor.Kv
open Go.RowKit Go.Proofs.YteeepelmkfiocaaGreatDoor.Crc Go.Proofs.YteeepelmkfiocaaGreatDoor.Cm

theorem itoa_len {n : Int} (h : fits n = true) : (Lib.itoa n).length ≤ 21 := by
  simp only [fits, Bool.and_eq_true, decide_eq_true_eq] at h
  exact Lib.itoa_length_le n (by omega) (by omega)
theorem Good.keys {c : Cm} (h : Cm.Good c) : c.keys.length ≤ 16 ∧ 1 ≤ c.keys.length ∧ ∀ k ∈ c.keys, k.length ≤ 32 := by
  obtain ⟨-, h1, h2, h3, h4, h5, -⟩ := h
  have hb : hi c.kind ≤ 16 ∧ 1 ≤ lo c.kind := by
    have key : ∀ q, q < 9 → q ≠ 0 → hi q ≤ 16 ∧ 1 ≤ lo q := by decide
    exact key _ h2 h1
  exact ⟨by omega, by omega, fun k hk => (h5 k hk).2⟩
theorem keyA_len {c : Cm} (h : Cm.Good c) : (keyA c).length ≤ 32 := by
  obtain ⟨h1, h2, h3⟩ := Good.keys h
  unfold keyA
  rw [List.getD_eq_getElem?_getD, List.getElem?_eq_getElem (by omega)]
  exact h3 _ (List.getElem_mem _)
theorem keyB_len {c : Cm} (h : Cm.Good c) : (keyB c).length ≤ 32 := by
  obtain ⟨h1, h2, h3⟩ := Good.keys h
  unfold keyB
  rw [List.getD_eq_getElem?_getD]
  cases hk : c.keys[1]? with
  | none => simp
  | some k => exact h3 _ (List.mem_of_getElem? hk)
theorem join_len {m : KM} (h : KvOk m) (ks : List (List UInt8)) : (joinM m ks).length ≤ 65 * ks.length := by
  induction ks with
  | nil => simp [joinM]
  | cons k ks ih =>
    have hv : ((mfind m k).getD []).length ≤ 64 := by
      cases hf : mfind m k with
      | none => simp
      | some v => simpa using h.find hf
    simp only [joinM, List.length_append, List.length_cons, List.length_nil]
    omega
theorem dels_len (m : KM) (ks : List (List UInt8)) : (delsM m ks).length ≤ m.length := by
  induction ks generalizing m with
  | nil => exact Nat.le_refl _
  | cons k ks ih => exact Nat.le_trans (ih (mdel m k)) len_del_le
theorem set_len (m : KM) (k : List UInt8) (o : Option (List UInt8)) : (mset m k o).length ≤ m.length + 1 := by
  have h := len_del_le (l := m) (k := k)
  cases o with
  | none => show (mdel m k).length ≤ _; omega
  | some v => have := len_put_le (K := strK) (l := mdel m k) (k := k) (v := v); show (mput strK (mdel m k) k v).length ≤ _; omega
/-- What a state, and a reply, is behind a command. -/
structure Bound (m m' : KM) (r : Rp) : Prop where
  ok : KvOk m'
  len : m'.length ≤ m.length + 2
  text : r.text.length ≤ 1100
  code : r.code ≤ 3
theorem get_bound {m : KM} (h : KvOk m) (k : List UInt8) : (getM m k).text.length ≤ 1100 ∧ (getM m k).code ≤ 3 := by
  unfold getM
  cases hf : mfind m k with
  | none => simp
  | some v => have := h.find hf; exact ⟨by simp only; omega, by simp⟩
theorem do_bound {m : KM} {c : Cm} (h : KvOk m) (hl : m.length ≤ 1000000) : Bound m (kvDo m c).1 (kvDo m c).2 := by
  unfold kvDo
  split
  · rename_i hg
    have hA := keyA_len hg
    have hB := keyB_len hg
    have hn : c.new.length ≤ 64 := hg.2.2.2.2.2.2.2.1
    have hp := fun (k v : List UInt8) => len_put_le (K := strK) (l := m) (k := k) (v := v)
    have hd := fun (k : List UInt8) => len_del_le (l := m) (k := k)
    have hget := get_bound h (keyA c)
    unfold doM
    split
    · exact ⟨h.put hA hn, by have := hp (keyA c) c.new; simp only; omega, by simp, by simp⟩
    · exact ⟨h, by simp only; omega, hget.1, hget.2⟩
    · exact ⟨h.del _, by have := hd (keyA c); simp only; omega, hget.1, hget.2⟩
    · unfold addM
      cases numM ((mfind m (keyA c)).getD [48]) with
      | none => exact ⟨h, by simp only; omega, by simp, by simp⟩
      | some n =>
        simp only
        split
        · rename_i hf
          have := itoa_len hf
          exact ⟨h.put hA (by omega), by have := hp (keyA c) (Lib.itoa (n + c.n)); simp only; omega, by simp only; omega, by simp⟩
        · exact ⟨h, by simp only; omega, by simp, by simp⟩
    · unfold casM
      cases mfind m (keyA c) with
      | none => exact ⟨h, by simp only; omega, by simp, by simp⟩
      | some v =>
        simp only
        split
        · exact ⟨h.put hA hn, by have := hp (keyA c) c.new; simp only; omega, by simp, by simp⟩
        · exact ⟨h, by simp only; omega, by simp, by simp⟩
    · have h1 := h.set (o := mfind m (keyB c)) hA (fun v hv => h.find hv)
      have h2 := h1.set (o := mfind m (keyA c)) hB (fun v hv => h.find hv)
      have l1 := set_len m (keyA c) (mfind m (keyB c))
      have l2 := set_len (mset m (keyA c) (mfind m (keyB c))) (keyB c) (mfind m (keyA c))
      exact ⟨h2, by unfold swapM; simp only; omega, by simp, by simp⟩
    · have := join_len h c.keys
      have := (Good.keys hg).1
      exact ⟨h, by simp only; omega, by simp only; omega, by simp⟩
    · have l1 := dels_len m c.keys
      have l2 := itoa_len (n := (m.length : Int) - ((delsM m c.keys).length : Int)) (by simp only [fits, Bool.and_eq_true, decide_eq_true_eq]; omega)
      exact ⟨h.dels _, by simp only; omega, by simp only; omega, by simp⟩
  · exact ⟨h, by simp only; omega, by simp, by simp⟩

/-! ### once -/
theorem look_known {t : TM} {client seq : Nat} {x : La} (h : mfind t client = some x) (hs : seq ≤ x.seq) : (lookM t client seq).2 ≠ 0 := by
  unfold lookM
  rw [h]
  simp only
  rw [if_neg (by omega)]
  split <;> simp
theorem apDo_known {a : Ap} {c : Cm} {x : La} (h : mfind a.t c.client = some x) (hs : c.seq ≤ x.seq) : (apDo a c).1 = a ∧ (apDo a c).2.2 = false := by
  unfold apDo
  split
  · exact ⟨rfl, rfl⟩
  · rw [if_neg (look_known h hs)]
    exact ⟨rfl, rfl⟩
theorem apDo_none {a : Ap} {c : Cm} (h : c.client = 0) : apDo a c = (a, ⟨2, []⟩, false) := by
  unfold apDo
  rw [if_pos h]
/-- What was fresh is told again. -/
theorem apDo_again {a : Ap} {c : Cm} (h : (apDo a c).2.2 = true) : apDo (apDo a c).1 c = ((apDo a c).1, (apDo a c).2.1, false) := by
  have h0 : c.client ≠ 0 := fun e => by rw [apDo_none e] at h; cases h
  have h1 : (lookM a.t c.client c.seq).2 = 0 := by
    refine Decidable.byContradiction fun hne => ?_
    unfold apDo at h
    rw [if_neg h0, if_neg hne] at h
    cases h
  have e : apDo a c = (⟨(kvDo a.m c).1, mput cliK a.t c.client ⟨c.seq, (kvDo a.m c).2⟩, a.n + 1⟩, (kvDo a.m c).2, true) := by
    unfold apDo
    rw [if_neg h0, if_pos h1]
  rw [e]
  unfold apDo
  rw [if_neg h0]
  have hl : lookM (mput cliK a.t c.client ⟨c.seq, (kvDo a.m c).2⟩) c.client c.seq = ((kvDo a.m c).2, 1) := by
    unfold lookM
    rw [mfind_put, if_pos rfl]
    simp
  rw [hl]
  simp
/-- Each command that came has its client's number, or one below. -/
def Told (l : List Cm) (i : Nat) (a : Ap) : Prop := ∀ j c, j < i → l[j]? = some c → c.client ≠ 0 → ∃ x, mfind a.t c.client = some x ∧ c.seq ≤ x.seq
theorem Told.zero (l : List Cm) (a : Ap) : Told l 0 a := fun j c hj => by omega
theorem Told.next {l : List Cm} {i : Nat} {a : Ap} {c : Cm} (h : Told l i a) (hc : l[i]? = some c) : Told l (i + 1) (apDo a c).1 := by
  intro j d hj hd h0
  have key : ∀ x, mfind a.t d.client = some x → d.seq ≤ x.seq → ∃ x, mfind (apDo a c).1.t d.client = some x ∧ d.seq ≤ x.seq := by
    intro x hf hs
    unfold apDo
    split
    · exact ⟨x, hf, hs⟩
    · split
      · rename_i h1 h2
        simp only
        rw [mfind_put]
        by_cases he : d.client = c.client
        · rw [if_pos he]
          refine ⟨_, rfl, ?_⟩
          unfold lookM at h2
          rw [← he, hf] at h2
          simp only at h2
          split at h2
          · show d.seq ≤ c.seq; omega
          · split at h2 <;> simp at h2
        · rw [if_neg he]
          exact ⟨x, hf, hs⟩
      · exact ⟨x, hf, hs⟩
  rcases Nat.lt_or_ge j i with h1 | h1
  · obtain ⟨x, hf, hs⟩ := h j d h1 hd h0
    exact key x hf hs
  · have : j = i := by omega
    subst this
    rw [hc] at hd
    cases hd
    unfold apDo
    rw [if_neg h0]
    split
    · simp only
      rw [mfind_put, if_pos rfl]
      exact ⟨_, rfl, Nat.le_refl _⟩
    · rename_i h2
      simp only
      unfold lookM at h2
      cases hf : mfind a.t c.client with
      | none => rw [hf] at h2; simp at h2
      | some x =>
        rw [hf] at h2
        simp only at h2
        refine ⟨x, rfl, ?_⟩
        split at h2
        · simp at h2
        · omega
/-- What an application has is bounded by how many commands it was handed. -/
structure ApOk (a : Ap) (i : Nat) : Prop where
  kv : KvOk a.m
  rise : Rise cliK a.t
  len : a.m.length ≤ 2 * i
  tab : a.t.length ≤ i
  n : a.n ≤ i
  row : ∀ p ∈ a.t, p.1 < 4294967296 ∧ p.2.seq < 4294967296 ∧ p.2.r.code ≤ 3 ∧ p.2.r.text.length ≤ 1100
theorem ApOk.zero : ApOk ap0 0 := ⟨KvOk.nil, rise_nil, by simp [ap0], by simp [ap0], by simp [ap0], by simp [ap0]⟩
theorem ApOk.mono {a : Ap} {i j : Nat} (h : ApOk a i) (hij : i ≤ j) : ApOk a j := ⟨h.kv, h.rise, by have := h.len; omega, by have := h.tab; omega, by have := h.n; omega, h.row⟩
theorem ApOk.next {a : Ap} {i : Nat} {c : Cm} (h : ApOk a i) (hi : i ≤ 10000) (h1 : c.client < 4294967296) (h2 : c.seq < 4294967296) : ApOk (apDo a c).1 (i + 1) := by
  unfold apDo
  split
  · exact h.mono (by omega)
  · split
    · have hb := do_bound (c := c) h.kv (by have := h.len; omega)
      have hp := len_put_le (K := cliK) (l := a.t) (k := c.client) (v := ⟨c.seq, (kvDo a.m c).2⟩)
      refine ⟨hb.ok, rise_put h.rise, ?_, ?_, ?_, fun p hp' => ?_⟩
      · have := hb.len; have := h.len; simp only; omega
      · have := h.tab; simp only; omega
      · have := h.n; simp only; omega
      · rcases mem_put hp' with rfl | hp'
        · exact ⟨h1, h2, hb.code, hb.text⟩
        · exact h.row p hp'
    · exact h.mono (by omega)
theorem apDo_bound {a : Ap} {i : Nat} {c : Cm} (h : ApOk a i) (hi : i ≤ 10000) : (apDo a c).2.1.code ≤ 3 ∧ (apDo a c).2.1.text.length ≤ 1100 := by
  unfold apDo
  split
  · simp
  · split
    · have hb := do_bound (c := c) h.kv (by have := h.len; omega)
      exact ⟨hb.code, hb.text⟩
    · simp only
      unfold lookM
      cases hf : mfind a.t c.client with
      | none => simp
      | some x =>
        have := h.row _ (mfind_mem hf)
        simp only
        split
        · simp
        · split
          · exact ⟨this.2.2.1, this.2.2.2⟩
          · simp
end Go.Proofs.YteeepelmkfiocaaGreatDoor.Kv
