/- Rows of frames, cut anywhere, a bit turned: plain data. No program here. -/
import Derived.Test.YtmgdhloehkdffaaDoorFrM
namespace Go.Proofs.YtmgdhloehkdffaaDoor.Fr
open Go.RowKit Go.Proofs.YtmgdhloehkdffaaDoor.Var

/-- What may be framed. -/
def Fit (x : List UInt8) : Prop := x ≠ [] ∧ x.length ≤ 65536
def frs (l : List (List UInt8)) : List UInt8 := l.flatMap fr
theorem frs_nil : frs [] = [] := rfl
theorem frs_cons (x : List UInt8) (l : List (List UInt8)) : frs (x :: l) = fr x ++ frs l := rfl
theorem frs_append (a b : List (List UInt8)) : frs (a ++ b) = frs a ++ frs b := by simp [frs]
theorem fr_pos (x : List UInt8) : 0 < (fr x).length := by rw [fr_len]; omega
theorem all_fr {x : List UInt8} (h : Fit x) (r : List UInt8) : all (fr x ++ r) = (x :: (all r).1, (fr x).length + (all r).2.1, (all r).2.2) := by
  have ht := take_fr h.1 h.2 r
  have hne : fr x ++ r ≠ [] := fun e => by have h1 := congrArg List.length e; have h2 := fr_pos x; rw [List.length_append] at h1; simp only [List.length_nil] at h1; omega
  rw [all_ok hne (by rw [ht]), ht]
  simp only [List.drop_left]
theorem all_frs {l : List (List UInt8)} (h : ∀ x ∈ l, Fit x) (r : List UInt8) : all (frs l ++ r) = (l ++ (all r).1, (frs l).length + (all r).2.1, (all r).2.2) := by
  induction l with
  | nil => simp [frs_nil]
  | cons x l ih =>
    rw [frs_cons, List.append_assoc, all_fr (h x (by simp)), ih (fun y hy => h y (by simp [hy]))]
    simp [Nat.add_assoc]
/-- A frame that is cut ends too soon. -/
theorem take_cut {x : List UInt8} (h : Fit x) {k : Nat} (hk : k < (fr x).length) : (take ((fr x).take k)).2.2 = 10 := by
  have hn : x.length < 18446744073709551616 := by have := h.2; omega
  have hx := List.length_pos_iff.2 h.1
  have hul := uv_len10 hn
  have hup := uv_len_pos x.length
  have hle := uv_lead x.length []
  rw [List.append_nil] at hle
  rw [fr_len] at hk
  by_cases hs : k < (uv x.length).length
  · have e1 : (fr x).take k = (uv x.length).take k := by
      unfold fr
      rw [List.append_assoc, List.take_append_of_le_length (by omega)]
    have hl : ((uv x.length).take k).length = k := by rw [List.length_take]; omega
    have e2 : lead ((uv x.length).take k) = k := by
      refine lead_eq (fun i hi => ?_) (by omega) (fun h => by omega)
      have := lead_hi (bs := uv x.length) (i := i) (by omega)
      simpa [List.getD_eq_getElem?_getD, hi] using this
    have hrd : rd ((uv x.length).take k) = (0, 0, 10) := by
      unfold rd
      rw [e2, if_neg (by omega), if_pos (by omega)]
    unfold take
    rw [e1, hrd]
    simp
  · have e1 : (fr x).take k = uv x.length ++ (le4 (Crc.sum x) ++ x).take (k - (uv x.length).length) := by
      unfold fr
      rw [List.append_assoc, List.take_append, List.take_of_length_le (by omega)]
    have hrd : rd ((fr x).take k) = (x.length, (uv x.length).length, 0) := by rw [e1]; exact rd_uv hn _
    have hl : ((fr x).take k).length = k := by rw [List.length_take, fr_len]; omega
    unfold take
    rw [hrd]
    simp only [ne_eq, not_true_eq_false, if_false]
    rw [if_neg (by have := h.2; omega), if_pos (by omega)]
theorem all_cut {x : List UInt8} (h : Fit x) {k : Nat} (h0 : 0 < k) (hk : k < (fr x).length) : all ((fr x).take k) = ([], 0, 10) := by
  have hc := take_cut h hk
  have hne : (fr x).take k ≠ [] := fun e => by have h1 := congrArg List.length e; rw [List.length_take] at h1; simp only [List.length_nil] at h1; omega
  rw [all_err hne (by rw [hc]; decide), hc]
/-- Where the frames end. -/
def ends (l : List (List UInt8)) (k : Nat) : Nat := (frs (l.take k)).length
theorem ends_zero (l : List (List UInt8)) : ends l 0 = 0 := by simp [ends, frs_nil]
theorem ends_succ {l : List (List UInt8)} {k : Nat} (h : k < l.length) : ends l (k + 1) = ends l k + (fr (l.getD k [])).length := by
  unfold ends
  rw [List.take_succ_eq_append_getElem h, frs_append, List.length_append, List.getD_eq_getElem?_getD, List.getElem?_eq_getElem h]
  simp [frs]
theorem ends_all (l : List (List UInt8)) : ends l l.length = (frs l).length := by simp [ends]
theorem ends_mono {l : List (List UInt8)} {i j : Nat} (h : i ≤ j) (hj : j ≤ l.length) : ends l i ≤ ends l j := by
  induction j with
  | zero => rw [show i = 0 by omega]; exact Nat.le_refl _
  | succ j ih =>
    rcases Nat.lt_or_ge i (j + 1) with h1 | h1
    · rw [ends_succ (by omega)]
      exact Nat.le_trans (ih (by omega) (by omega)) (by omega)
    · rw [show i = j + 1 by omega]; exact Nat.le_refl _
/-- All of a row of frames that is cut at n, k of them whole. -/
theorem all_cut_row {l : List (List UInt8)} (h : ∀ x ∈ l, Fit x) {n k : Nat} (hk : k ≤ l.length) (h1 : ends l k ≤ n) (h2 : k < l.length → n < ends l (k + 1)) (hn : n ≤ (frs l).length) :
    all ((frs l).take n) = (l.take k, ends l k, if n = ends l k then 0 else 10) := by
  have hsp : l = l.take k ++ l.drop k := (List.take_append_drop k l).symm
  have e1 : (frs l).take n = frs (l.take k) ++ (frs (l.drop k)).take (n - ends l k) := by
    conv => lhs; rw [hsp, frs_append, List.take_append, List.take_of_length_le (by exact h1)]
    rfl
  rw [e1, all_frs (fun x hx => h x (List.mem_of_mem_take hx))]
  by_cases he : n = ends l k
  · rw [if_pos he, he, Nat.sub_self, List.take_zero, all_nil]
    simp [ends]
  · rw [if_neg he]
    have hkl : k < l.length := by
      rcases Nat.lt_or_ge k l.length with h3 | h3
      · exact h3
      · have : k = l.length := by omega
        rw [this, ends_all] at h1 he
        omega
    have h3 := h2 hkl
    rw [ends_succ hkl] at h3
    have hg : l.getD k [] = l[k] := by rw [List.getD_eq_getElem?_getD, List.getElem?_eq_getElem hkl]; rfl
    have e2 : (frs (l.drop k)).take (n - ends l k) = (fr l[k]).take (n - ends l k) := by
      rw [List.drop_eq_getElem_cons hkl, frs_cons, List.take_append_of_le_length (by rw [hg] at h3; omega)]
    rw [e2, all_cut (h _ (List.getElem_mem hkl)) (by omega) (by rw [hg] at h3; omega)]
    simp [ends]
theorem flip_ne {b : UInt8} {s : Nat} (hs : s < 8) : b ^^^ (1 <<< UInt8.ofNat s) ≠ b := by
  intro h
  have h1 : (1 : UInt8) <<< UInt8.ofNat s = 0 := by
    have := congrArg (b ^^^ ·) h
    simpa [← UInt8.xor_assoc] using this
  have : ∀ s, s < 8 → (1 : UInt8) <<< UInt8.ofNat s ≠ 0 := by decide
  exact this s hs h1
/-- A byte of the sum, or of the inside, that is else: the sum does not fit. -/
theorem take_flip {x : List UInt8} (h : Fit x) (r : List UInt8) {j : Nat} (hj : j < 4 + x.length) {y : UInt8} (hy : y ≠ (le4 (Crc.sum x) ++ x).getD j 0) :
    (take (uv x.length ++ (le4 (Crc.sum x) ++ x).set j y ++ r)).2.2 = 12 := by
  have hn : x.length < 18446744073709551616 := by have := h.2; omega
  have hx := List.length_pos_iff.2 h.1
  have hrd : rd (uv x.length ++ (le4 (Crc.sum x) ++ x).set j y ++ r) = (x.length, (uv x.length).length, 0) := by
    rw [List.append_assoc]; exact rd_uv hn _
  have hsl : ((le4 (Crc.sum x) ++ x).set j y).length = 4 + x.length := by rw [List.length_set, List.length_append]; rfl
  unfold take
  rw [hrd]
  simp only [ne_eq, not_true_eq_false, if_false]
  rw [if_neg (by have := h.2; omega), if_neg (by simp only [List.length_append, hsl]; omega)]
  have e1 : (uv x.length ++ (le4 (Crc.sum x) ++ x).set j y ++ r).drop (uv x.length).length = (le4 (Crc.sum x) ++ x).set j y ++ r := by
    rw [List.append_assoc, List.drop_left]
  have e2 : (uv x.length ++ (le4 (Crc.sum x) ++ x).set j y ++ r).drop ((uv x.length).length + 4) = ((le4 (Crc.sum x) ++ x).set j y).drop 4 ++ r := by
    rw [← List.drop_drop, e1, List.drop_append_of_le_length (by omega)]
  have f4 : (((le4 (Crc.sum x) ++ x).set j y).drop 4 ++ r).take x.length = ((le4 (Crc.sum x) ++ x).set j y).drop 4 := by
    rw [List.take_append_of_le_length (by rw [List.length_drop]; omega), List.take_of_length_le (by rw [List.length_drop]; omega)]
  have t4 : ((le4 (Crc.sum x) ++ x).set j y ++ r).take 4 = ((le4 (Crc.sum x) ++ x).set j y).take 4 := List.take_append_of_le_length (by omega)
  rw [e1, e2, f4, t4]
  rw [if_pos]
  by_cases h4 : j < 4
  · rw [List.set_append_left _ _ (by rw [le4_len]; exact h4)]
    have hl : ((le4 (Crc.sum x)).set j y).length = 4 := by rw [List.length_set]; rfl
    rw [List.drop_left' hl, List.take_left' hl]
    intro e
    have h5 := congrArg (fun l => l.getD j 0) e
    simp only [List.getD_eq_getElem?_getD] at h5 hy
    rw [List.getElem?_set_self (by rw [le4_len]; exact h4)] at h5
    rw [List.getElem?_append_left (by rw [le4_len]; exact h4)] at hy
    exact hy (by simpa using h5.symm)
  · rw [List.set_append_right _ _ (by rw [le4_len]; omega)]
    rw [List.drop_left' (le4_len _), List.take_left' (le4_len _)]
    have hjx : j - 4 < x.length := by omega
    intro e
    have hs := le4_inj (Crc.sum_lt _) (Crc.sum_lt _) e
    rw [le4_len] at hs
    have e3 : x = x.take (j - 4) ++ x.getD (j - 4) 0 :: x.drop (j - 4 + 1) := by
      rw [List.getD_eq_getElem?_getD, List.getElem?_eq_getElem hjx]
      simp
    have e4 : x.set (j - 4) y = x.take (j - 4) ++ y :: x.drop (j - 4 + 1) := List.set_eq_take_append_cons_drop.trans (by rw [if_pos hjx])
    have hy2 : y ≠ x.getD (j - 4) 0 := by
      intro h6
      apply hy
      rw [h6]
      simp only [List.getD_eq_getElem?_getD]
      rw [List.getElem?_append_right (by rw [le4_len]; omega), le4_len]
    rw [e4] at hs
    conv at hs => rhs; rw [e3]
    exact Crc.sum_ne hy2 hs
/-- A byte of frame i's sum or inside is turned: those ahead are told, and the sum does not fit. -/
theorem all_flip {l : List (List UInt8)} (h : ∀ x ∈ l, Fit x) {i j : Nat} (hi : i < l.length) (hj : j < 4 + (l.getD i []).length) {y : UInt8} {p : Nat} (hp : p + (l.getD i []).length + 4 = ends l (i + 1) + j) (hy : y ≠ (frs l).getD p 0) :
    all ((frs l).set p y) = (l.take i, ends l i, 12) := by
  have hg : l.getD i [] = l[i] := by rw [List.getD_eq_getElem?_getD, List.getElem?_eq_getElem hi]; rfl
  have hf : Fit l[i] := h _ (List.getElem_mem hi)
  have he := ends_succ hi
  rw [hg] at hj hp he
  rw [fr_len] at he
  have hsp : l = l.take i ++ l[i] :: l.drop (i + 1) := by simp
  have e1 : frs l = frs (l.take i) ++ (uv l[i].length ++ ((le4 (Crc.sum l[i]) ++ l[i]) ++ frs (l.drop (i + 1)))) := by
    conv => lhs; rw [hsp]
    rw [frs_append, frs_cons]
    unfold fr
    simp only [List.append_assoc]
  have hl1 : (frs (l.take i)).length = ends l i := rfl
  have hp2 : p = ends l i + ((uv l[i].length).length + j) := by omega
  have hsl : (le4 (Crc.sum l[i]) ++ l[i]).length = 4 + l[i].length := by rw [List.length_append]; rfl
  have e2 : (frs l).set p y = frs (l.take i) ++ (uv l[i].length ++ (le4 (Crc.sum l[i]) ++ l[i]).set j y ++ frs (l.drop (i + 1))) := by
    rw [e1, List.set_append_right _ _ (by omega), hl1, hp2, Nat.add_sub_cancel_left, List.set_append_right _ _ (by omega), Nat.add_sub_cancel_left, List.set_append_left _ _ (by omega), List.append_assoc]
  have hy2 : y ≠ (le4 (Crc.sum l[i]) ++ l[i]).getD j 0 := by
    intro h6
    apply hy
    have e3 : ∀ S R : List UInt8, j < S.length → (frs (l.take i) ++ (uv l[i].length ++ (S ++ R))).getD p 0 = S.getD j 0 := fun S R hS => by
      simp only [List.getD_eq_getElem?_getD]
      rw [List.getElem?_append_right (by omega), hl1, hp2, Nat.add_sub_cancel_left, List.getElem?_append_right (by omega), Nat.add_sub_cancel_left, List.getElem?_append_left hS]
    rw [h6, e1, e3 _ _ (by omega)]
  have ht := take_flip hf (frs (l.drop (i + 1))) hj hy2
  rw [e2, all_frs (fun x hx => h x (List.mem_of_mem_take hx))]
  have hne : uv l[i].length ++ (le4 (Crc.sum l[i]) ++ l[i]).set j y ++ frs (l.drop (i + 1)) ≠ [] := fun e => by
    have h1 := congrArg List.length e
    have h2 := uv_len_pos l[i].length
    simp only [List.length_append, List.length_nil] at h1
    omega
  rw [all_err hne (by rw [ht]; decide), ht]
  simp [ends]
theorem frs_len {l : List (List UInt8)} {b : Nat} (h : ∀ x ∈ l, x.length ≤ b) (hb : b < 18446744073709551616) : (frs l).length ≤ l.length * (14 + b) := by
  induction l with
  | nil => simp [frs_nil]
  | cons x l ih =>
    have h1 := h x (by simp)
    have h2 := uv_len10 (n := x.length) (by omega)
    have h3 := ih (fun y hy => h y (by simp [hy]))
    rw [frs_cons, List.length_append, fr_len, List.length_cons, Nat.add_mul]
    omega
end Go.Proofs.YtmgdhloehkdffaaDoor.Fr
