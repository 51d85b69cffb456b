/- quoratelaw26.answers. -/
import Derived.Test.YtfmaflaoplkdbaaGreatDoorAuKH
import Derived.Test.YtfmaflaoplkdbaaGreatDoorPureAll
import Derived.Test.YtfmaflaoplkdbaaGreatDoorAuBCDE
set_option linter.unusedSimpArgs false
set_option linter.unusedVariables false
set_option linter.unnecessarySimpa false
namespace Go.Proofs.YtfmaflaoplkdbaaGreatDoor.Au
open Go.RowKit Go.Proofs.YtfmaflaoplkdbaaGreatDoor.Crc Go.Proofs.YtfmaflaoplkdbaaGreatDoor.Cm Go.Proofs.YtfmaflaoplkdbaaGreatDoor.Tr
set_option linter.unusedSimpArgs false
set_option linter.unusedVariables false

theorem anss_le {told : List To} {j n : Nat} (h : j ≤ n) : ∃ r, anss told n = anss told j ++ r := by
  unfold anss
  refine ⟨((told.take n).drop j).flatMap (·.ans), ?_⟩
  rw [← List.flatMap_append]
  congr 1
  conv => lhs; rw [← List.take_append_drop j (told.take n)]
  rw [List.take_take, Nat.min_eq_left h]
theorem findA_hit {told : List To} {i j q : Nat} {t : To} {e : An} (hj : told[j]? = some t) (hji : j ≤ i) (h0 : findA (anss told j) (anNu e) = none) (h1 : findA (t.ans.take q) (anNu e) = none) (hq : t.ans[q]? = some e) (hc : e.code ≠ 3) : findA (anss told (i + 1)) (anNu e) = some e := by
  obtain ⟨r, er⟩ := anss_le (told := told) (show j + 1 ≤ i + 1 by omega)
  rw [er, findA_append, anss_next hj, findA_append, h0, Option.none_or]
  have e2 : t.ans = t.ans.take q ++ t.ans.drop q := (List.take_append_drop q _).symm
  have key : findA t.ans (anNu e) = some e := by
    rw [e2, findA_append, h1, Option.none_or]
    obtain ⟨hlt, he⟩ := List.getElem?_eq_some_iff.1 hq
    rw [List.drop_eq_getElem_cons hlt, he]
    simp [findA, hc]
  rw [key, Option.some_or]
theorem findA_snoc {ds : List An} {k : Nat} {s : Nu} {d : An} (hd : ds[k]? = some d) : findA (ds.take (k + 1)) s = (findA (ds.take k) s).or (findA [d] s) := by
  have := findA_seen (L := []) (s := s) hd
  simpa using this
theorem findA_own {told : List To} {i k : Nat} {t : To} {a : An} (hi : told[i]? = some t) (hd : t.ans[k]? = some a) (hc : a.code ≠ 3) (h : findA (anss told (i + 1)) (anNu a) = none) : False := by
  rw [anss_next hi] at h
  exact findA_none.1 h a (List.mem_append_right _ (List.mem_of_getElem? hd)) ⟨hc, rfl⟩
set_option maxRecDepth 100000 in
set_option maxHeartbeats 8000000 in
theorem answers_any {T : Nat → Prop} {tv : Value} {told : List To} {t : To} {i : Nat} (w : World) (ht : toK.row w T tv told) (hi : told[i]? = some t) :
    Calls Tryz.prog 17 #[tv, .int .i64 (i : Int)] w fun e w' => e = .returned (.bool (b2 told i t)) ∧ Upd [] w w' := by
  obtain ⟨xo, cp, rfl, h3, h4⟩ := Row.slice ht
  have HT := hide ht; have HI := hide hi
  simp only [maxLen] at h4
  have hlt := (List.getElem?_eq_some_iff.1 hi).1
  have dI : decide ((i : Int) < told.length) = true := by simp; omega
  have dI' : decide (0 ≤ (i : Int)) = true := by simp
  obtain ⟨P, hP⟩ : ∃ P : An → Bool, P = fun a => !decide (a.code = 3) && !decide (findA (anss told (i + 1)) (anNu a) = some a) := ⟨_, rfl⟩
  have hb1 : b2 told i t = t.ans.any P := by unfold b2; rw [hP, anss_next hi]
  rw [hb1]
  have HP := hide hP
  clear ht hi hP hb1
  go_enter Tryz.func17, Tryz.ntmps17
  go_wp2_with fail
  go_loopw [5] (fun si wr => ∃ k : Nat, k ≤ t.ans.length ∧ si = .int .i64 k ∧ Upd [] w wr ∧ ∀ d ∈ t.ans.take k, P d = false) (fun si _ => t.ans.length - (intOf si).toNat)
  case atStart => exact ⟨0, by omega, rfl, Upd.refl _ _, by simp⟩
  case round =>
    obtain ⟨k, hk, rfl, hu, hall⟩ := hrel
    have HALL := hide hall; have HU := hide hu
    clear hall hu
    obtain ⟨b, off, xa, ca, xd, cd, rfl, -, c4, -, hvd, -, hd2, -⟩ := to_at (toK.row_upd_nil HT.out HU.out) HI.out
    have HVD := hide hvd
    clear hvd
    by_cases hkl : k < t.ans.length
    · have d5 : decide ((k : Int) < t.ans.length) = true := by simp; omega
      have d5' : decide (k < t.ans.length) = true := by simpa using hkl
      obtain ⟨a, hd⟩ : ∃ a, t.ans[k]? = some a := ⟨_, List.getElem?_eq_getElem hkl⟩
      obtain ⟨bd, od, rfl, y0, y1, y2, y3⟩ := an_at HVD.out hd
      have HD := hide hd
      have hk1 : k + 1 ≤ t.ans.length := by omega
      clear hd
      go_upto_region 5 with fail
      have hB := blk_new wr (.cells #[.int .u32 (a.client : Int), .int .u32 (a.seq : Int), .int .u8 (a.code : Int), .string (strOf a.text)] 39)
      have hal := (Upd.refl [] wr).alloc (.cells #[.int .u32 (a.client : Int), .int .u32 (a.seq : Int), .int .u8 (a.code : Int), .string (strOf a.text)] 39)
      change Code.wp _ _ _ _ (wr.alloc (.cells #[.int .u32 (a.client : Int), .int .u32 (a.seq : Int), .int .u8 (a.code : Int), .string (strOf a.text)] 39))
      generalize wr.alloc (.cells #[.int .u32 (a.client : Int), .int .u32 (a.seq : Int), .int .u8 (a.code : Int), .string (strOf a.text)] 39) = w1 at *
      obtain ⟨B, hBs⟩ : ∃ B, wr.heap.size = B := ⟨_, rfl⟩
      rw [hBs] at hB ⊢
      have B1 := hide hB; have U1 := hide (HU.out.trans hal)
      have z2 : w1.cell? ⟨B, 2, none⟩ = some (.int .u8 (a.code : Int)) := blk_cell hB rfl
      clear hB hal hBs y0 y1 y2 y3 c4 HVD
      by_cases hc3 : a.code = 3
      · have q0 : ((a.code : Int) == 3) = true := by simp [hc3]
        have START : Hid ((Value.bool true = .bool false ∧ a.code ≠ 3 ∧ findA (anss told 0) (anNu a) = none) ∨ (Value.bool true = .bool true ∧ (a.code = 3 ∨ findA (anss told (i + 1)) (anNu a) = some a))) := hide (.inr ⟨rfl, .inl hc3⟩)
        clear hc3
        go_wp2_with fail
        go_loopw [7, 8] (fun sf sj wq => ∃ j : Nat, j ≤ i + 1 ∧ sj = .int .i64 j ∧ Upd [] w1 wq ∧ ((sf = .bool false ∧ a.code ≠ 3 ∧ findA (anss told j) (anNu a) = none) ∨ (sf = .bool true ∧ (a.code = 3 ∨ findA (anss told (i + 1)) (anNu a) = some a)))) (fun _ sj _ => i + 1 - (intOf sj).toNat)
        case atStart => exact ⟨0, by omega, rfl, Upd.refl _ _, by have := START.out; simpa using this⟩
        case round =>
          obtain ⟨j, hj, rfl, hu, hcase⟩ := hrel
          have HU2 := hide hu
          clear hu START
          rcases hcase with ⟨rfl, hc3, hno⟩ | ⟨rfl, hok⟩
          · have NO := hide hno; have C3 := hide hc3
            clear hno hc3
            by_cases hji : j ≤ i
            · have d6 : decide ((j : Int) ≤ (i : Int)) = true := by simp; omega
              have d6' : decide (j ≤ i) = true := by simpa using hji
              have dj : decide ((j : Int) < told.length) = true := by simp; omega
              obtain ⟨tj, htj⟩ : ∃ tj, told[j]? = some tj := ⟨_, List.getElem?_eq_getElem (by omega)⟩
              obtain ⟨b', off', xe, ce, xd', cd', e1, -, c4, -, hvd, -, hd3, -⟩ := to_at (toK.row_upd_nil HT.out (U1.out.trans HU2.out)) htj
              cases e1
              have HVD := hide hvd; have HTJ := hide htj
              clear hvd htj
              go_wp2_with fail
              go_loopw [7, 9] (fun sf sm wx => ∃ m : Nat, m ≤ tj.ans.length ∧ sm = .int .i64 m ∧ Upd [] wr wx ∧ ((sf = .bool false ∧ findA (tj.ans.take m) (anNu a) = none) ∨ (sf = .bool true ∧ findA (anss told (i + 1)) (anNu a) = some a))) (fun _ sm _ => tj.ans.length - (intOf sm).toNat)
              case atStart => exact ⟨0, by omega, rfl, Upd.refl _ _, .inl ⟨rfl, rfl⟩⟩
              case round =>
                obtain ⟨m, hm, rfl, hu3, hcase⟩ := hrel
                have c4 := cellU c4 hu3 (by simp)
                have HU3 := hide hu3
                clear hu3
                rcases hcase with ⟨rfl, hnm⟩ | ⟨rfl, hok⟩
                · have NM := hide hnm
                  clear hnm
                  by_cases hml : m < tj.ans.length
                  · have d7 : decide ((m : Int) < tj.ans.length) = true := by simp; omega
                    have d7' : decide (m < tj.ans.length) = true := by simpa using hml
                    obtain ⟨e, he⟩ : ∃ e, tj.ans[m]? = some e := ⟨_, List.getElem?_eq_getElem hml⟩
                    obtain ⟨be, oe, rfl, z0, z1, z2, z3⟩ := an_at (anK.row_upd_nil HVD.out HU3.out) he
                    have HE := hide he
                    have hm1 : m + 1 ≤ tj.ans.length := by omega
                    clear he
                    have bb := blk_alloc ((HU2.out.trans HU3.out).get B1.out (by simp)) (.cells #[.int .u32 (e.client : Int), .int .u32 (e.seq : Int), .int .u8 (e.code : Int), .string (strOf e.text)] 39)
                    have b0 := blk_cell (i := 0) bb rfl
                    have b1 := blk_cell (i := 1) bb rfl
                    have b2 := blk_cell (i := 2) bb rfl
                    have b3 := blk_cell (i := 3) bb rfl
                    simp only [List.getElem_toArray, List.getElem_cons_zero, List.getElem_cons_succ] at b0 b1 b2 b3
                    clear bb
                    by_cases hc : e.client = a.client
                    · have q1 : ((e.client : Int) == (a.client : Int)) = true := by simp [hc]
                      have q1' : decide ((e.client : Int) = (a.client : Int)) = true := by simp [hc]
                      by_cases hs : e.seq = a.seq
                      · have q2 : ((e.seq : Int) == (a.seq : Int)) = true := by simp [hs]
                        have q2' : decide ((e.seq : Int) = (a.seq : Int)) = true := by simp [hs]
                        by_cases ho : e.code = 3
                        · have q3 : ((e.code : Int) != 3) = false := by simp [ho]
                          have hno1 : findA [e] (anNu a) = none := findA_old ho _
                          clear hc hs ho
                          have NN : Hid (findA (tj.ans.take (m + 1)) (anNu a) = none) := hide (by rw [findA_snoc HE.out, NM.out, hno1]; rfl)
                          clear hno1
                          go_wp2_with fail
                          go_roundw
                          case rel => exact ⟨m + 1, hm1, by go_num, HU3.out.trans ((Upd.refl [] _).alloc _), .inl ⟨rfl, NN.out⟩⟩
                          case measure => simp [intOf]; omega
                        · have q3 : ((e.code : Int) != 3) = true := by simp; omega
                          have hnu : anNu e = anNu a := by unfold anNu; rw [hc, hs]
                          have hfa := findA_hit (i := i) HTJ.out hji (by rw [hnu]; exact NO.out) (by rw [hnu]; exact NM.out) HE.out ho
                          rw [hnu] at hfa
                          have HFA := hide hfa
                          have hcmp := neq_an a e
                          clear hc hs ho hfa hnu
                          by_cases hae : a = e
                          · have HAE := hide hae
                            rw [decide_eq_true hae] at hcmp
                            clear hae
                            go_wp2_with fail
                            go_roundw
                            case rel => exact ⟨m + 1, hm1, by go_num, HU3.out.trans ((Upd.refl [] _).alloc _), .inr ⟨rfl, by rw [HFA.out, ← HAE.out]⟩⟩
                            case measure => simp [intOf]; omega
                          · have HAE := hide hae
                            rw [decide_eq_false hae] at hcmp
                            clear hae
                            go_wp2_with fail
                            all_goals go_ret
                            all_goals (
                              have hPa : P a = true := by
                                rw [HP.out]
                                have h5 : ¬ e = a := fun h => HAE.out h.symm
                                simp [C3.out, HFA.out, h5]
                              rw [List.any_eq_true.2 ⟨a, List.mem_of_getElem? HD.out, hPa⟩]
                              exact ⟨rfl, U1.out.trans ((HU2.out.trans HU3.out).trans ((Upd.refl [] _).alloc _))⟩)
                      · have q2 : ((e.seq : Int) == (a.seq : Int)) = false := by simp; omega
                        have q2' : decide ((e.seq : Int) = (a.seq : Int)) = false := by simp; omega
                        have hno1 : findA [e] (anNu a) = none := findA_none.2 fun x hx h => by simp at hx; subst hx; have := h.2; unfold anNu at this; simp at this; exact hs this.2
                        clear hc hs
                        have NN : Hid (findA (tj.ans.take (m + 1)) (anNu a) = none) := hide (by rw [findA_snoc HE.out, NM.out, hno1]; rfl)
                        clear hno1
                        go_wp2_with fail
                        go_roundw
                        case rel => exact ⟨m + 1, hm1, by go_num, HU3.out.trans ((Upd.refl [] _).alloc _), .inl ⟨rfl, NN.out⟩⟩
                        case measure => simp [intOf]; omega
                    · have q1 : ((e.client : Int) == (a.client : Int)) = false := by simp; omega
                      have q1' : decide ((e.client : Int) = (a.client : Int)) = false := by simp; omega
                      have hno1 : findA [e] (anNu a) = none := findA_none.2 fun x hx h => by simp at hx; subst hx; have := h.2; unfold anNu at this; simp at this; exact hc this.1
                      clear hc
                      have NN : Hid (findA (tj.ans.take (m + 1)) (anNu a) = none) := hide (by rw [findA_snoc HE.out, NM.out, hno1]; rfl)
                      clear hno1
                      go_wp2_with fail
                      go_roundw
                      case rel => exact ⟨m + 1, hm1, by go_num, HU3.out.trans ((Upd.refl [] _).alloc _), .inl ⟨rfl, NN.out⟩⟩
                      case measure => simp [intOf]; omega
                  · have d7 : decide ((m : Int) < tj.ans.length) = false := by simp; omega
                    have d7' : decide (m < tj.ans.length) = false := by simpa using hml
                    have hnx : findA (anss told (j + 1)) (anNu a) = none := by
                      have h5 := NM.out
                      rw [List.take_of_length_le (by omega)] at h5
                      rw [anss_next HTJ.out, findA_append, NO.out, h5]
                      rfl
                    have NX := hide hnx
                    clear hnx
                    go_wp2_with fail
                    go_roundw
                    case rel => exact ⟨j + 1, by omega, by go_num, HU2.out.trans HU3.out, .inl ⟨rfl, C3.out, NX.out⟩⟩
                    case measure => simp [intOf]; omega
                · have OK := hide hok
                  clear hok
                  by_cases hml : m < tj.ans.length
                  · have d7 : decide ((m : Int) < tj.ans.length) = true := by simp; omega
                    go_wp2_with fail
                    go_roundw
                    case rel => exact ⟨j + 1, by omega, by go_num, HU2.out.trans HU3.out, .inr ⟨rfl, .inr OK.out⟩⟩
                    case measure => simp [intOf]; omega
                  · have d7 : decide ((m : Int) < tj.ans.length) = false := by simp; omega
                    go_wp2_with fail
                    go_roundw
                    case rel => exact ⟨j + 1, by omega, by go_num, HU2.out.trans HU3.out, .inr ⟨rfl, .inr OK.out⟩⟩
                    case measure => simp [intOf]; omega
            · have hje : j = i + 1 := by omega
              exact (findA_own HI.out HD.out C3.out (by have := NO.out; rwa [hje] at this)).elim
          · have OKA := hide hok
            clear hok
            by_cases hji : j ≤ i
            · have d6 : decide ((j : Int) ≤ (i : Int)) = true := by simp; omega
              go_wp2_with fail
              go_roundw
              case rel =>
                refine ⟨k + 1, hk1, by go_num, U1.out.trans HU2.out, fun x hx => ?_⟩
                rw [show t.ans.take (k + 1) = t.ans.take k ++ [a] from by obtain ⟨hlt, he⟩ := List.getElem?_eq_some_iff.1 HD.out; rw [List.take_succ_eq_append_getElem hlt, he]] at hx
                rcases List.mem_append.1 hx with h5 | h5
                · exact HALL.out x h5
                · simp only [List.mem_singleton] at h5
                  rw [h5, HP.out]
                  rcases OKA.out with h6 | h6
                  · simp [h6]
                  · simp [h6]
              case measure => simp [intOf]; omega
            · have d6 : decide ((j : Int) ≤ (i : Int)) = false := by simp; omega
              go_wp2_with fail
              go_roundw
              case rel =>
                refine ⟨k + 1, hk1, by go_num, U1.out.trans HU2.out, fun x hx => ?_⟩
                rw [show t.ans.take (k + 1) = t.ans.take k ++ [a] from by obtain ⟨hlt, he⟩ := List.getElem?_eq_some_iff.1 HD.out; rw [List.take_succ_eq_append_getElem hlt, he]] at hx
                rcases List.mem_append.1 hx with h5 | h5
                · exact HALL.out x h5
                · simp only [List.mem_singleton] at h5
                  rw [h5, HP.out]
                  rcases OKA.out with h6 | h6
                  · simp [h6]
                  · simp [h6]
              case measure => simp [intOf]; omega
      · have q0 : ((a.code : Int) == 3) = false := by simp; omega
        have START : Hid ((Value.bool false = .bool false ∧ a.code ≠ 3 ∧ findA (anss told 0) (anNu a) = none) ∨ (Value.bool false = .bool true ∧ (a.code = 3 ∨ findA (anss told (i + 1)) (anNu a) = some a))) := hide (.inl ⟨rfl, hc3, rfl⟩)
        clear hc3
        go_wp2_with fail
        go_loopw [7, 8] (fun sf sj wq => ∃ j : Nat, j ≤ i + 1 ∧ sj = .int .i64 j ∧ Upd [] w1 wq ∧ ((sf = .bool false ∧ a.code ≠ 3 ∧ findA (anss told j) (anNu a) = none) ∨ (sf = .bool true ∧ (a.code = 3 ∨ findA (anss told (i + 1)) (anNu a) = some a)))) (fun _ sj _ => i + 1 - (intOf sj).toNat)
        case atStart => exact ⟨0, by omega, rfl, Upd.refl _ _, by have := START.out; simpa using this⟩
        case round =>
          obtain ⟨j, hj, rfl, hu, hcase⟩ := hrel
          have HU2 := hide hu
          clear hu START
          rcases hcase with ⟨rfl, hc3, hno⟩ | ⟨rfl, hok⟩
          · have NO := hide hno; have C3 := hide hc3
            clear hno hc3
            by_cases hji : j ≤ i
            · have d6 : decide ((j : Int) ≤ (i : Int)) = true := by simp; omega
              have d6' : decide (j ≤ i) = true := by simpa using hji
              have dj : decide ((j : Int) < told.length) = true := by simp; omega
              obtain ⟨tj, htj⟩ : ∃ tj, told[j]? = some tj := ⟨_, List.getElem?_eq_getElem (by omega)⟩
              obtain ⟨b', off', xe, ce, xd', cd', e1, -, c4, -, hvd, -, hd3, -⟩ := to_at (toK.row_upd_nil HT.out (U1.out.trans HU2.out)) htj
              cases e1
              have HVD := hide hvd; have HTJ := hide htj
              clear hvd htj
              go_wp2_with fail
              go_loopw [7, 9] (fun sf sm wx => ∃ m : Nat, m ≤ tj.ans.length ∧ sm = .int .i64 m ∧ Upd [] wr wx ∧ ((sf = .bool false ∧ findA (tj.ans.take m) (anNu a) = none) ∨ (sf = .bool true ∧ findA (anss told (i + 1)) (anNu a) = some a))) (fun _ sm _ => tj.ans.length - (intOf sm).toNat)
              case atStart => exact ⟨0, by omega, rfl, Upd.refl _ _, .inl ⟨rfl, rfl⟩⟩
              case round =>
                obtain ⟨m, hm, rfl, hu3, hcase⟩ := hrel
                have c4 := cellU c4 hu3 (by simp)
                have HU3 := hide hu3
                clear hu3
                rcases hcase with ⟨rfl, hnm⟩ | ⟨rfl, hok⟩
                · have NM := hide hnm
                  clear hnm
                  by_cases hml : m < tj.ans.length
                  · have d7 : decide ((m : Int) < tj.ans.length) = true := by simp; omega
                    have d7' : decide (m < tj.ans.length) = true := by simpa using hml
                    obtain ⟨e, he⟩ : ∃ e, tj.ans[m]? = some e := ⟨_, List.getElem?_eq_getElem hml⟩
                    obtain ⟨be, oe, rfl, z0, z1, z2, z3⟩ := an_at (anK.row_upd_nil HVD.out HU3.out) he
                    have HE := hide he
                    have hm1 : m + 1 ≤ tj.ans.length := by omega
                    clear he
                    have bb := blk_alloc ((HU2.out.trans HU3.out).get B1.out (by simp)) (.cells #[.int .u32 (e.client : Int), .int .u32 (e.seq : Int), .int .u8 (e.code : Int), .string (strOf e.text)] 39)
                    have b0 := blk_cell (i := 0) bb rfl
                    have b1 := blk_cell (i := 1) bb rfl
                    have b2 := blk_cell (i := 2) bb rfl
                    have b3 := blk_cell (i := 3) bb rfl
                    simp only [List.getElem_toArray, List.getElem_cons_zero, List.getElem_cons_succ] at b0 b1 b2 b3
                    clear bb
                    by_cases hc : e.client = a.client
                    · have q1 : ((e.client : Int) == (a.client : Int)) = true := by simp [hc]
                      have q1' : decide ((e.client : Int) = (a.client : Int)) = true := by simp [hc]
                      by_cases hs : e.seq = a.seq
                      · have q2 : ((e.seq : Int) == (a.seq : Int)) = true := by simp [hs]
                        have q2' : decide ((e.seq : Int) = (a.seq : Int)) = true := by simp [hs]
                        by_cases ho : e.code = 3
                        · have q3 : ((e.code : Int) != 3) = false := by simp [ho]
                          have hno1 : findA [e] (anNu a) = none := findA_old ho _
                          clear hc hs ho
                          have NN : Hid (findA (tj.ans.take (m + 1)) (anNu a) = none) := hide (by rw [findA_snoc HE.out, NM.out, hno1]; rfl)
                          clear hno1
                          go_wp2_with fail
                          go_roundw
                          case rel => exact ⟨m + 1, hm1, by go_num, HU3.out.trans ((Upd.refl [] _).alloc _), .inl ⟨rfl, NN.out⟩⟩
                          case measure => simp [intOf]; omega
                        · have q3 : ((e.code : Int) != 3) = true := by simp; omega
                          have hnu : anNu e = anNu a := by unfold anNu; rw [hc, hs]
                          have hfa := findA_hit (i := i) HTJ.out hji (by rw [hnu]; exact NO.out) (by rw [hnu]; exact NM.out) HE.out ho
                          rw [hnu] at hfa
                          have HFA := hide hfa
                          have hcmp := neq_an a e
                          clear hc hs ho hfa hnu
                          by_cases hae : a = e
                          · have HAE := hide hae
                            rw [decide_eq_true hae] at hcmp
                            clear hae
                            go_wp2_with fail
                            go_roundw
                            case rel => exact ⟨m + 1, hm1, by go_num, HU3.out.trans ((Upd.refl [] _).alloc _), .inr ⟨rfl, by rw [HFA.out, ← HAE.out]⟩⟩
                            case measure => simp [intOf]; omega
                          · have HAE := hide hae
                            rw [decide_eq_false hae] at hcmp
                            clear hae
                            go_wp2_with fail
                            all_goals go_ret
                            all_goals (
                              have hPa : P a = true := by
                                rw [HP.out]
                                have h5 : ¬ e = a := fun h => HAE.out h.symm
                                simp [C3.out, HFA.out, h5]
                              rw [List.any_eq_true.2 ⟨a, List.mem_of_getElem? HD.out, hPa⟩]
                              exact ⟨rfl, U1.out.trans ((HU2.out.trans HU3.out).trans ((Upd.refl [] _).alloc _))⟩)
                      · have q2 : ((e.seq : Int) == (a.seq : Int)) = false := by simp; omega
                        have q2' : decide ((e.seq : Int) = (a.seq : Int)) = false := by simp; omega
                        have hno1 : findA [e] (anNu a) = none := findA_none.2 fun x hx h => by simp at hx; subst hx; have := h.2; unfold anNu at this; simp at this; exact hs this.2
                        clear hc hs
                        have NN : Hid (findA (tj.ans.take (m + 1)) (anNu a) = none) := hide (by rw [findA_snoc HE.out, NM.out, hno1]; rfl)
                        clear hno1
                        go_wp2_with fail
                        go_roundw
                        case rel => exact ⟨m + 1, hm1, by go_num, HU3.out.trans ((Upd.refl [] _).alloc _), .inl ⟨rfl, NN.out⟩⟩
                        case measure => simp [intOf]; omega
                    · have q1 : ((e.client : Int) == (a.client : Int)) = false := by simp; omega
                      have q1' : decide ((e.client : Int) = (a.client : Int)) = false := by simp; omega
                      have hno1 : findA [e] (anNu a) = none := findA_none.2 fun x hx h => by simp at hx; subst hx; have := h.2; unfold anNu at this; simp at this; exact hc this.1
                      clear hc
                      have NN : Hid (findA (tj.ans.take (m + 1)) (anNu a) = none) := hide (by rw [findA_snoc HE.out, NM.out, hno1]; rfl)
                      clear hno1
                      go_wp2_with fail
                      go_roundw
                      case rel => exact ⟨m + 1, hm1, by go_num, HU3.out.trans ((Upd.refl [] _).alloc _), .inl ⟨rfl, NN.out⟩⟩
                      case measure => simp [intOf]; omega
                  · have d7 : decide ((m : Int) < tj.ans.length) = false := by simp; omega
                    have d7' : decide (m < tj.ans.length) = false := by simpa using hml
                    have hnx : findA (anss told (j + 1)) (anNu a) = none := by
                      have h5 := NM.out
                      rw [List.take_of_length_le (by omega)] at h5
                      rw [anss_next HTJ.out, findA_append, NO.out, h5]
                      rfl
                    have NX := hide hnx
                    clear hnx
                    go_wp2_with fail
                    go_roundw
                    case rel => exact ⟨j + 1, by omega, by go_num, HU2.out.trans HU3.out, .inl ⟨rfl, C3.out, NX.out⟩⟩
                    case measure => simp [intOf]; omega
                · have OK := hide hok
                  clear hok
                  by_cases hml : m < tj.ans.length
                  · have d7 : decide ((m : Int) < tj.ans.length) = true := by simp; omega
                    go_wp2_with fail
                    go_roundw
                    case rel => exact ⟨j + 1, by omega, by go_num, HU2.out.trans HU3.out, .inr ⟨rfl, .inr OK.out⟩⟩
                    case measure => simp [intOf]; omega
                  · have d7 : decide ((m : Int) < tj.ans.length) = false := by simp; omega
                    go_wp2_with fail
                    go_roundw
                    case rel => exact ⟨j + 1, by omega, by go_num, HU2.out.trans HU3.out, .inr ⟨rfl, .inr OK.out⟩⟩
                    case measure => simp [intOf]; omega
            · have hje : j = i + 1 := by omega
              exact (findA_own HI.out HD.out C3.out (by have := NO.out; rwa [hje] at this)).elim
          · have OKA := hide hok
            clear hok
            by_cases hji : j ≤ i
            · have d6 : decide ((j : Int) ≤ (i : Int)) = true := by simp; omega
              go_wp2_with fail
              go_roundw
              case rel =>
                refine ⟨k + 1, hk1, by go_num, U1.out.trans HU2.out, fun x hx => ?_⟩
                rw [show t.ans.take (k + 1) = t.ans.take k ++ [a] from by obtain ⟨hlt, he⟩ := List.getElem?_eq_some_iff.1 HD.out; rw [List.take_succ_eq_append_getElem hlt, he]] at hx
                rcases List.mem_append.1 hx with h5 | h5
                · exact HALL.out x h5
                · simp only [List.mem_singleton] at h5
                  rw [h5, HP.out]
                  rcases OKA.out with h6 | h6
                  · simp [h6]
                  · simp [h6]
              case measure => simp [intOf]; omega
            · have d6 : decide ((j : Int) ≤ (i : Int)) = false := by simp; omega
              go_wp2_with fail
              go_roundw
              case rel =>
                refine ⟨k + 1, hk1, by go_num, U1.out.trans HU2.out, fun x hx => ?_⟩
                rw [show t.ans.take (k + 1) = t.ans.take k ++ [a] from by obtain ⟨hlt, he⟩ := List.getElem?_eq_some_iff.1 HD.out; rw [List.take_succ_eq_append_getElem hlt, he]] at hx
                rcases List.mem_append.1 hx with h5 | h5
                · exact HALL.out x h5
                · simp only [List.mem_singleton] at h5
                  rw [h5, HP.out]
                  rcases OKA.out with h6 | h6
                  · simp [h6]
                  · simp [h6]
              case measure => simp [intOf]; omega
    · have d5 : decide ((k : Int) < t.ans.length) = false := by simp; omega
      have d5' : decide (k < t.ans.length) = false := by simpa using hkl
      have hall := HALL.out
      rw [List.take_of_length_le (by omega)] at hall
      have hany : t.ans.any P = false := List.any_eq_false.2 fun d hd => by rw [hall d hd]; simp
      have PA := hide hany
      clear hall hany
      go_wp2_with fail
      go_ret
      rw [PA.out]
      exact ⟨rfl, HU.out⟩
end Go.Proofs.YtfmaflaoplkdbaaGreatDoor.Au
