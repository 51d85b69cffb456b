/- quoratelaw06.place: a bit of an inside, or of a sum. -/
import Derived.Test.YtmgdhloehkdffaaDoorRecKeM
import Derived.Test.YtmgdhloehkdffaaDoorRecS
namespace Go.Proofs.YtmgdhloehkdffaaDoor.Rec
open Go.RowKit Go.Proofs.YtmgdhloehkdffaaDoor.Var Go.Proofs.YtmgdhloehkdffaaDoor.Crc Go.Proofs.YtmgdhloehkdffaaDoor.Fr Go.Proofs.YtmgdhloehkdffaaDoor.DiskW

/-- What place answers. -/
def Placed (ls : List (List UInt8)) (e : Ending) : Prop := ∃ i j s : Nat, i < ls.length ∧ j < 4 + (ls.getD i []).length ∧ s < 8 ∧ e = .returned (.int .i64 ((8 * (ends ls i + 1 + j) + s : Nat) : Int))
set_option maxHeartbeats 2000000 in
theorem place_any {v : Value} {ls : List (List UInt8)} {n : Nat} (w : World) (h : ReadsRows w v ls) (h0 : 0 < ls.length) (h30 : ls.length ≤ 30) (h100 : ∀ x ∈ ls, x.length ≤ 100) (hn : n ≤ 65535) :
    Calls Tryd.prog 26 #[v, .int .i64 (n : Int)] w fun e w' => Placed ls e ∧ w = w' := by
  obtain ⟨ao, cap, rfl, h1, h2, h3⟩ := h
  simp only [maxLen] at h2
  have HA := hide h3
  have HC := hide h100
  have hbl := bits_le h100
  have HBL := hide hbl
  clear h3 h100 hbl
  go_enter Tryd.func26, Tryd.ntmps26
  go_upto_block 0 with fail
  go_cut [5] (fun s wr => s = .int .i64 (bitsOf ls : Nat) ∧ w = wr)
  case first =>
    as_aux_lemma =>
    go_wp2_with fail
    go_loopw [5, 6] (fun sb si wr => ∃ k : Nat, k ≤ ls.length ∧ si = .int .i64 k ∧ sb = .int .i64 (bitsOf (ls.take k) : Nat) ∧ w = wr) (fun _ si _ => ls.length - (intOf si).toNat)
    case atStart => exact ⟨0, by omega, rfl, by simp [bitsOf], rfl⟩
    case round =>
      obtain ⟨k, hk, rfl, rfl, rfl⟩ := hrel
      by_cases hlt : k < ls.length
      · have d5 : decide ((k : Int) < ls.length) = true := by simp; omega
        have d5' : decide (k < ls.length) = true := by simpa using hlt
        obtain ⟨x, hx⟩ : ∃ x, ls[k]? = some x := ⟨_, List.getElem?_eq_getElem hlt⟩
        obtain ⟨b6, of6, xo6, n6, c6, e6, hcl6, hsr6, -⟩ := HA.out k x hx
        have hxl : x.length = n6 := by have := hsr6.len; simpa using this
        have hgd : ls.getD k [] = x := by rw [List.getD_eq_getElem?_getD, hx]; rfl
        have hx100 := HC.out (ls.getD k []) (getD_mem hlt)
        have hbs := bits_take_succ hlt
        have hb1 := HBL.out k
        rw [hgd, hxl] at hbs hx100
        subst e6
        clear hsr6 hx hgd hxl
        have HBS := hide hbs
        have w1 : IntKind.i64.wrap (4 + (n6 : Int)) = 4 + (n6 : Int) := IntWalk.i64_in _ (by omega)
        have w2 : IntKind.i64.wrap (8 * (4 + (n6 : Int))) = 8 * (4 + (n6 : Int)) := IntWalk.i64_in _ (by omega)
        have w3 : IntKind.i64.wrap ((bitsOf (ls.take k) : Int) + 8 * (4 + (n6 : Int))) = ((bitsOf (ls.take (k + 1)) : Nat) : Int) := by rw [hbs]; rw [IntWalk.i64_in _ (by omega)]; omega
        clear hbs
        go_wp2_with fail
        go_roundw
        case rel => exact ⟨k + 1, by omega, by go_num, by go_num, trivial⟩
        case measure => simp [intOf]; omega
      · have d5 : decide ((k : Int) < ls.length) = false := by simp; omega
        have d5' : decide (k < ls.length) = false := by simpa using hlt
        have e1 : ls.take k = ls := List.take_of_length_le (by omega)
        rw [e1]
        go_wp2_with fail
        go_meet
        exact ⟨rfl, rfl⟩
  case rest =>
  obtain ⟨rfl, hwc⟩ := hcut
  subst hwc
  have hb0 : bitsOf ls = 8 * (4 + (ls.getD 0 []).length) + bitsOf (ls.drop 1) := bits_drop h0
  have hb1 := HBL.out ls.length
  rw [List.take_of_length_le (Nat.le_refl _)] at hb1
  have q0 : (bitsOf ls : Int) ≠ 0 := by omega
  obtain ⟨m0, hm0⟩ : ∃ m, m = n % bitsOf ls := ⟨_, rfl⟩
  have hm1 : m0 < bitsOf ls := by rw [hm0]; exact Nat.mod_lt _ (by omega)
  have hm2 : (n : Int) % (bitsOf ls : Int) = (m0 : Int) := by rw [hm0]; rfl
  have hm4 : m0 ≤ n := by rw [hm0]; exact Nat.mod_le _ _
  have M1 := hide hm1
  clear hb0 hb1 hm0 hm1 HBL
  go_wp2_with fail
  go_loopw [1, 7, 8] (fun sn sa si wr => ∃ k m : Nat, k ≤ ls.length ∧ m < bitsOf (ls.drop k) ∧ m ≤ 65535 ∧ ends ls k ≤ 105 * k ∧ si = .int .i64 k ∧ sa = .int .i64 (ends ls k : Nat) ∧ sn = .int .i64 m ∧ w = wr) (fun _ _ si _ => ls.length - (intOf si).toNat)
  case atStart => exact ⟨0, m0, by omega, M1.out, by omega, by rw [ends_zero]; omega, rfl, by rw [ends_zero]; rfl, congrArg (Value.int .i64) hm2, rfl⟩
  case round =>
    obtain ⟨k, m, hk, hm, hm3, hek, rfl, rfl, rfl, rfl⟩ := hrel
    by_cases hlt : k < ls.length
    · have d5 : decide ((k : Int) < ls.length) = true := by simp; omega
      have d5' : decide (k < ls.length) = true := by simpa using hlt
      obtain ⟨x, hx⟩ : ∃ x, ls[k]? = some x := ⟨_, List.getElem?_eq_getElem hlt⟩
      obtain ⟨b6, of6, xo6, n6, c6, e6, hcl6, hsr6, -⟩ := HA.out k x hx
      have hxl : x.length = n6 := by have := hsr6.len; simpa using this
      have hgd : ls.getD k [] = x := by rw [List.getD_eq_getElem?_getD, hx]; rfl
      have hgl : (ls.getD k []).length = n6 := by rw [hgd]; exact hxl
      have hx100 := HC.out (ls.getD k []) (getD_mem hlt)
      have hbd := bits_drop hlt
      have hes := ends_short hlt (by omega)
      rw [hgl] at hbd hes hx100
      subst e6
      have GL := hide hgl; have BD := hide hbd; have ES := hide hes; have MM := hide hm
      clear hsr6 hx hgd hxl hgl hm
      have w1 : IntKind.i64.wrap (4 + (n6 : Int)) = 4 + (n6 : Int) := IntWalk.i64_in _ (by omega)
      have w2 : IntKind.i64.wrap (8 * (4 + (n6 : Int))) = 8 * (4 + (n6 : Int)) := IntWalk.i64_in _ (by omega)
      clear hbd hes
      by_cases hin : m < 8 * (4 + n6)
      · have d6 : decide ((m : Int) < 8 * (4 + (n6 : Int))) = true := by simp; omega
        have w3 : IntKind.i64.wrap ((ends ls k : Int) + 1) = (ends ls k : Int) + 1 := IntWalk.i64_in _ (by omega)
        have w4 : IntKind.i64.wrap (8 * ((ends ls k : Int) + 1)) = 8 * ((ends ls k : Int) + 1) := IntWalk.i64_in _ (by omega)
        have w5 : IntKind.i64.wrap (8 * ((ends ls k : Int) + 1) + (m : Int)) = 8 * ((ends ls k : Int) + 1) + (m : Int) := IntWalk.i64_in _ (by omega)
        go_wp2_with fail
        go_ret
        exact ⟨⟨k, m / 8, m % 8, hlt, by rw [GL.out]; omega, by omega, ret_int (by omega)⟩, rfl⟩
      · have d6 : decide ((m : Int) < 8 * (4 + (n6 : Int))) = false := by simp; omega
        have w3 : IntKind.i64.wrap ((m : Int) - 8 * (4 + (n6 : Int))) = ((m - 8 * (4 + n6) : Nat) : Int) := by rw [IntWalk.i64_in _ (by omega)]; omega
        have w4 : IntKind.i64.wrap ((ends ls k : Int) + 5) = (ends ls k : Int) + 5 := IntWalk.i64_in _ (by omega)
        have w5 : IntKind.i64.wrap ((ends ls k : Int) + 5 + (n6 : Int)) = ((ends ls (k + 1) : Nat) : Int) := by rw [IntWalk.i64_in _ (by omega), ES.out]; omega
        go_wp2_with fail
        go_roundw
        case rel => exact ⟨k + 1, m - 8 * (4 + n6), by omega, by have := BD.out; have := MM.out; omega, by omega, by have := ES.out; omega, by go_num, by go_num, by go_num, trivial⟩
        case measure => simp [intOf]; omega
    · have e1 : ls.drop k = [] := List.drop_of_length_le (by omega)
      rw [e1] at hm
      exact absurd hm (by simp [bitsOf])
end Go.Proofs.YtmgdhloehkdffaaDoor.Rec
