/- What a log of sets tells behind an end of the power: plain data. No program here. -/
import Derived.Test.YtekbhfpdakhhkaaGreatDoorStO
import Derived.Test.YtekbhfpdakhhkaaGreatDoorRecKeM
namespace Go.Proofs.YtekbhfpdakhhkaaGreatDoor.St
set_option linter.unusedSimpArgs false
set_option linter.unusedVariables false
open Go.RowKit Go.Proofs.YtekbhfpdakhhkaaGreatDoor.Crc Go.Proofs.YtekbhfpdakhhkaaGreatDoor.Var Go.Proofs.YtekbhfpdakhhkaaGreatDoor.Fr Go.Proofs.YtekbhfpdakhhkaaGreatDoor.Rec

/-- A disk that has these records, the first q of them synced. -/
def LogD (recs : List (List UInt8)) (q : Nat) : DS := ⟨frs recs, ends recs q, false, -1⟩
theorem ends_more {recs : List (List UInt8)} {q : Nat} (r : List UInt8) (hq : q ≤ recs.length) : ends (recs ++ [r]) q = ends recs q := by
  unfold ends
  rw [List.take_append_of_le_length hq]
theorem logD_log {recs : List (List UInt8)} {q : Nat} {r : List UInt8} (hq : q ≤ recs.length) (h0 : 0 < r.length) (h1 : r.length ≤ 2000) : (LogD recs q).log r = (LogD (recs ++ [r]) q, 0) := by
  unfold DS.log DS.append LogD
  simp only [Bool.false_eq_true, if_false]
  rw [if_neg (by omega), if_neg (by omega), if_neg (by omega), frs_append, ends_more r hq]
  simp [frs]
theorem putT_ok {recs : List (List UInt8)} {q : Nat} {s : Sto} {x : SetM} (hq : q ≤ recs.length) (hx : SetOk x) (hm : mayM s x = 0) : putT (LogD recs q) s x = ((LogD (recs ++ [recB x]) q, doM s x), 0) := by
  obtain ⟨m1, -⟩ := may_ok hm
  have hl := recB_len hx (by
    by_cases h : x.kind = 3
    · exact .inr h
    · exact .inl ⟨(m1 h).1, (m1 h).2.1⟩)
  unfold putT
  rw [if_neg (by simp [hm]), logD_log hq hl.1 hl.2]
  simp
theorem putT_no {recs : List (List UInt8)} {q : Nat} {s : Sto} {x : SetM} (hm : mayM s x ≠ 0) : putT (LogD recs q) s x = ((LogD recs q, s), (mayM s x : Int)) := by
  unfold putT
  rw [if_pos hm]
theorem logD_ok {recs : List (List UInt8)} {q : Nat} (hq : q ≤ recs.length) (hl : (frs recs).length ≤ 1000000000000) : (LogD recs q).Ok 1000000000000 :=
  ⟨ends_le hq, hl, by simp [LogD], by simp [LogD]⟩
theorem logD_sync {recs : List (List UInt8)} {q : Nat} : (LogD recs q).sync = (LogD recs recs.length, 0) := by
  unfold DS.sync LogD
  simp [ends_all]
/-- The sets that are done, one behind the other. -/
def runS (xs : List SetM) (s : Sto) : Sto := xs.foldl doM s
def okS : List SetM → Sto → Prop
  | [], _ => True
  | x :: xs, s => Plain x ∧ mayM s x = 0 ∧ okS xs (doM s x)
theorem openS_run {xs : List SetM} {s : Sto} (h : okS xs s) : openS (xs.map recB) s = some (runS xs s) := by
  induction xs generalizing s with
  | nil => rfl
  | cons x xs ih =>
    obtain ⟨h1, h2, h3⟩ := h
    simp only [List.map_cons, openS, stepS]
    rw [readOk_rec h1, read_rec h1, if_pos ⟨rfl, h2⟩]
    exact ih h3
theorem okS_append {xs ys : List SetM} {s : Sto} : okS (xs ++ ys) s ↔ okS xs s ∧ okS ys (runS xs s) := by
  induction xs generalizing s with
  | nil => simp [okS, runS]
  | cons x xs ih =>
    simp only [List.cons_append, okS, ih, runS, List.foldl_cons]
    constructor
    · rintro ⟨a, b, c, e⟩; exact ⟨⟨a, b, c⟩, e⟩
    · rintro ⟨⟨a, b, c⟩, e⟩; exact ⟨a, b, c, e⟩
theorem okS_take {xs : List SetM} {s : Sto} (h : okS xs s) (n : Nat) : okS (xs.take n) s := by
  have h1 := h
  rw [← List.take_append_drop n xs, okS_append] at h1
  exact h1.1
theorem okS_get {xs : List SetM} {s : Sto} (h : okS xs s) {i : Nat} (hi : i < xs.length) : Plain xs[i] ∧ mayM (runS (xs.take i) s) xs[i] = 0 ∧ runS (xs.take (i + 1)) s = doM (runS (xs.take i) s) xs[i] := by
  have h1 : xs = xs.take i ++ (xs[i] :: xs.drop (i + 1)) := by rw [List.getElem_cons_drop, List.take_append_drop]
  have h0 := h
  rw [h1, okS_append] at h0
  refine ⟨h0.2.1, h0.2.2.1, ?_⟩
  rw [List.take_succ_eq_append_getElem hi]
  unfold runS
  rw [List.foldl_append]
  rfl
theorem runS_snoc (xs : List SetM) (x : SetM) (s : Sto) : runS (xs ++ [x]) s = doM (runS xs s) x := by simp [runS]
theorem okS_snoc {xs : List SetM} {x : SetM} {s : Sto} (h : okS xs s) (hp : Plain x) (hm : mayM (runS xs s) x = 0) : okS (xs ++ [x]) s := okS_append.2 ⟨h, hp, hm, trivial⟩
theorem okS_sto {xs : List SetM} {s : Sto} {i : Nat} (h : okS xs s) (hs : StoOk s i) : StoOk (runS xs s) (i + xs.length) := by
  induction xs generalizing s i with
  | nil => exact hs
  | cons x xs ih =>
    obtain ⟨h1, h2, h3⟩ := h
    have := ih h3 (hs.next h1.ok h2)
    exact this.mono (by simp; omega)
theorem recs_fit {xs : List SetM} {s : Sto} (h : okS xs s) : ∀ r ∈ xs.map recB, Fit r ∧ r.length ≤ 2000 := by
  induction xs generalizing s with
  | nil => simp
  | cons x xs ih =>
    obtain ⟨h1, h2, h3⟩ := h
    intro r hr
    simp only [List.map_cons, List.mem_cons] at hr
    rcases hr with rfl | hr
    · have hl := recB_len h1.ok (by
        by_cases h : x.kind = 3
        · exact .inr h
        · exact .inl (h1.bal h))
      exact ⟨⟨fun e => by rw [e] at hl; simp at hl, by omega⟩, hl.2⟩
    · exact ih h3 r hr
theorem recB_len2 {x : SetM} (h : SetOk x) (hb : x.kind ≠ 3 → 0 ≤ x.b.r ∧ x.b.r < 7) : (recB x).length ≤ x.bytes.length + 60 := by
  have h2 := uv_len10 h.slot
  have h3 := uv_len10 h.n
  have h4 := uv_len10 (n := x.bytes.length) (by have := h.len; omega)
  have h5 := uv_len10 (n := x.kind) (by have := h.kind; omega)
  unfold recB
  simp only [List.length_append]
  have a1 : (if x.kind ≠ 1 then uv x.slot else []).length ≤ 10 := by
    split
    · exact h2
    · simp
  have a3 : (if x.kind ≠ 1 then txB x.bytes else []).length ≤ x.bytes.length + 10 := by split <;> simp [txB] <;> omega
  by_cases hk : x.kind = 3
  · have a2 : (if x.kind ≠ 3 then ballB x.b else []).length ≤ 0 := by rw [if_neg (by simp [hk])]; simp
    omega
  · have h6 := uv_len10 (n := x.b.r.toNat) (by have := hb hk; omega)
    have a2 : (if x.kind ≠ 3 then ballB x.b else []).length ≤ 20 := by split <;> simp [ballB] <;> omega
    omega
theorem recs_short {xs : List SetM} {s : Sto} (h : okS xs s) (hb : ∀ x ∈ xs, x.bytes.length ≤ 200) : ∀ r ∈ xs.map recB, r.length ≤ 260 := by
  induction xs generalizing s with
  | nil => simp
  | cons x xs ih =>
    obtain ⟨h1, h2, h3⟩ := h
    intro r hr
    simp only [List.map_cons, List.mem_cons] at hr
    rcases hr with rfl | hr
    · have := recB_len2 h1.ok h1.bal
      have := hb x (by simp)
      omega
    · exact ih h3 (fun y hy => hb y (by simp [hy])) r hr
/-- Behind an end of the power and a new start: a beginning is told, at least what was synced. -/
theorem crash_open {recs : List (List UInt8)} {q : Nat} {p : Nat} (h : ∀ r ∈ recs, Fit r) (hq : q ≤ recs.length) (hp : ends recs q ≤ p) (hp2 : p ≤ (frs recs).length) :
    ∃ m, q ≤ m ∧ m ≤ recs.length ∧ (all ((⟨(frs recs).take p, ends recs q, false, -1⟩ : DS).byt.take (ends recs q))).2.2 = 0 ∧ recsD ⟨(frs recs).take p, ends recs q, false, -1⟩ = recs.take m ∧ cutD ⟨(frs recs).take p, ends recs q, false, -1⟩ = LogD (recs.take m) m := by
  obtain ⟨m, e, t1, t2, t3, t4, t5, t6, t7, t8⟩ := told h hq hp hp2
  refine ⟨m, t1, t2, by simp only; rw [t4], ?_, ?_⟩
  · unfold recsD
    simp only
    rw [t4, t5]
    exact t6
  · unfold cutD LogD
    simp only
    rw [t5]
    simp only
    rw [t7, t8, frs_take_ends]
    unfold ends
    rw [List.take_take, Nat.min_self]
theorem logD_crash {recs : List (List UInt8)} {q : Nat} {n : Int} (h0 : 0 ≤ n) (hq : q ≤ recs.length) : ∃ p, ends recs q ≤ p ∧ p ≤ (frs recs).length ∧ ((LogD recs q).crash n).1.restart.1 = ⟨(frs recs).take p, ends recs q, false, -1⟩ ∧ ((LogD recs q).crash n).1.dead = true ∧ (p : Int) = min ((frs recs).length : Int) (ends recs q + n) := by
  have hle := ends_le hq
  unfold DS.crash DS.restart LogD
  simp only [Bool.false_eq_true, if_false]
  by_cases h : n < ((frs recs).length : Int) - (ends recs q : Nat)
  · refine ⟨ends recs q + n.toNat, by omega, by omega, ?_, trivial, by omega⟩
    rw [if_pos ⟨h0, h⟩]
  · refine ⟨(frs recs).length, hle, Nat.le_refl _, ?_, trivial, by omega⟩
    rw [if_neg (fun hh => h hh.2), List.take_length]
end Go.Proofs.YtekbhfpdakhhkaaGreatDoor.St
