/- The law's acts: a row of them, opened; Great. -/
import Derived.Test.YtekbhfpdakhhkaaGreatDoorLawAll
import Derived.Test.YtekbhfpdakhhkaaGreatDoorStFs
namespace Go.Proofs.YtekbhfpdakhhkaaGreatDoor.St
set_option linter.unusedSimpArgs false
set_option linter.unusedVariables false
set_option linter.unnecessarySimpa false
open Go.ChangeShapes Go.WideShapes Go.ChangeAt Go.RowKit Go.Deep Go.Proofs.YtekbhfpdakhhkaaGreatDoor.Crc Go.Proofs.YtekbhfpdakhhkaaGreatDoor.DiskW Go.Proofs.YtekbhfpdakhhkaaGreatDoor.Rec

/-- An act as plain data. -/
structure A16 where
  k : Nat
  N : Int
  slot : Nat
  n : Nat
  r : Int
  bytes : List UInt8
abbrev actC (a : A16) (v : Value) : List Value := [.int .u8 (a.k : Int), .int .i64 a.N, .int .u64 (a.slot : Int), .int .u64 (a.n : Int), .int .i64 a.r, v]
structure ActOk (a : A16) : Prop where
  k : a.k < 256
  slot : a.slot < 18446744073709551616
  n : a.n < 18446744073709551616
/-- Bytes that lie in T's blocks. -/
structure InT (w : World) (T : Nat → Prop) (xo : Option Addr) (n c : Nat) (bs : List UInt8) : Prop where
  src : SrcAt w xo n c (bs.map u8v) 1
  le : n ≤ c
  mx : c ≤ maxLen
  blk : ∀ a, xo = some a → n ≠ 0 → T a.block
def actP (w : World) (T : Nat → Prop) (a : A16) (cs : List Value) : Prop := ∃ xo xn xc, cs = actC a (.slice xo xn xc) ∧ InT w T xo xn xc a.bytes ∧ ActOk a
/-- A row of acts below block B. -/
def Acts (w : World) (B : Nat) (v : Value) (l : List A16) : Prop := Row w (fun k => k < B) 6 (actP w (fun k => k < B)) v l
theorem InT.upd {w w' : World} {T : Nat → Prop} {xo : Option Addr} {n c : Nat} {bs : List UInt8} {S : List Nat} (h : InT w T xo n c bs) (hu : Upd S w w') (hS : ∀ k ∈ S, ¬ T k) : InT w' T xo n c bs :=
  ⟨src_upd h.src hu (fun a e h0 hm => hS _ hm (h.blk a e h0)), h.le, h.mx, h.blk⟩
theorem Acts.upd {w w' : World} {B : Nat} {v : Value} {l : List A16} (h : Acts w B v l) (hu : Upd [] w w') : Acts w' B v l :=
  Row.upd h hu (by simp) fun a cs _ ⟨xo, xn, xc, e, hi, ho⟩ => ⟨xo, xn, xc, e, hi.upd hu (by simp), ho⟩
theorem InT.lies {w : World} {B D base n c : Nat} {X : List Nat} {bv : Value} {d : DS} {xo : Option Addr} {bs : List UInt8} (h : InT w (fun k => k < B) xo n c bs) (hd : DiskAt w D base bv d) (hB : B ≤ w.heap.size) (hD : B ≤ D) (hb : B ≤ base) (hX : ∀ k ∈ X, B ≤ k) : Lies w D X xo n c bs :=
  ⟨h.src, h.le, h.mx, fun a e h0 => by
    have hk := h.blk a e h0
    replace hk : a.block < B := hk
    refine ⟨⟨by omega, by omega, fun ho => ?_⟩, fun hm => ?_⟩
    · have := (owns_lt hd.row _ (hd.ownAt.1 ho)).1; omega
    · have := hX _ hm; omega⟩
theorem act_get {w : World} {B : Nat} {v : Value} {l : List A16} (h : Acts w B v l) : ∃ (xo : Option Addr) (c : Nat), v = .slice xo l.length c ∧ l.length ≤ c ∧ c ≤ maxLen ∧
    ∀ i a, l[i]? = some a → ∃ b off yo yn yc, xo = some ⟨b, off, none⟩ ∧ b < B ∧ InT w (fun k => k < B) yo yn yc a.bytes ∧ ActOk a ∧ w.cell? ⟨b, off + i * 6, none⟩ = some (.int .u8 (a.k : Int)) ∧ w.cell? ⟨b, off + i * 6 + 1, none⟩ = some (.int .i64 a.N) ∧
      w.cell? ⟨b, off + i * 6 + 2, none⟩ = some (.int .u64 (a.slot : Int)) ∧ w.cell? ⟨b, off + i * 6 + 3, none⟩ = some (.int .u64 (a.n : Int)) ∧ w.cell? ⟨b, off + i * 6 + 4, none⟩ = some (.int .i64 a.r) ∧ w.cell? ⟨b, off + i * 6 + 5, none⟩ = some (.slice yo yn yc) := by
  obtain ⟨xo, c, rfl, h1, h2, hg⟩ := Row.get (by decide) h
  refine ⟨xo, c, rfl, h1, h2, fun i a hi => ?_⟩
  obtain ⟨b, off, cs, rfl, hb, hT, ⟨yo, yn, yc, rfl, hin, hok⟩, -, hcell⟩ := hg i a hi
  exact ⟨b, off, yo, yn, yc, rfl, hT, hin, hok, hcell 0 _ rfl, hcell 1 _ rfl, hcell 2 _ rfl, hcell 3 _ rfl, hcell 4 _ rfl, hcell 5 _ rfl⟩
section
variable {H : Type} {enc : TypeId × Value → H} {w : World} {n : Nat} {cs : List Value} {y : DataW H × List MemPlace}
theorem open_int1 {t : TypeId} {k : IntKind} (ht : Tryz.prog.underlying t = some (.int k)) (h : DataW.trod enc Tryz.prog w 0 (fun _ => true) true n t cs = some y) : ∃ m, cs = [.int k m] ∧ (Lit.int k m).wf = true := by
  obtain ⟨m, h1, -, h2⟩ := DataW.trod_int ht h
  exact ⟨m, h1, h2⟩
theorem open_fields {t : TypeId} {fs : Array Field} (ht : Tryz.prog.underlying t = some (.struct fs)) (h : DataW.trod enc Tryz.prog w 0 (fun _ => true) true n t cs = some y) (hl : Light Tryz.prog t y.1) :
    cs.length = Tryz.prog.cellsOf t ∧ ∃ m, ∀ (i : Nat) (f : Field) (ty : TypeId) (o z : Nat), fs[i]? = some f → f.type = ty → f.offset = o → Tryz.prog.cellsOf ty = z → ∃ u, DataW.trod enc Tryz.prog w 0 (fun _ => true) true m ty ((cs.drop o).take z) = some u ∧ Light Tryz.prog ty u.1 := by
  obtain ⟨ys, m, -, e, hlen, hyl, hf⟩ := DataW.trod_struct ht h
  refine ⟨hlen, m, ?_⟩
  rintro i f ty o z hi rfl rfl rfl
  have h1 := hf i f hi
  have hi' : i < ys.length := by have := (Array.getElem?_eq_some_iff.1 hi).1; omega
  refine ⟨ys[i], h1.trans (List.getElem?_eq_getElem hi'), ?_⟩
  rw [e] at hl
  exact hl.part ht hi (by rw [List.getElem?_map, List.getElem?_eq_getElem hi']; rfl)
theorem open_bytesT {v : Value} (h : DataW.trod enc Tryz.prog w 0 (fun _ => true) true n 39 [v] = some y) : ∃ xo xn xc bs, v = .slice xo xn xc ∧ InT w (fun k => k < w.heap.size) xo xn xc bs := by
  obtain ⟨bo, bl, bc, bs, rfl, h1, h2, h3⟩ := Door.open_bytes h
  refine ⟨bo, bl, bc, bs, rfl, h1, h2, h3, fun a e h0 => ?_⟩
  obtain ⟨b, off, e2, h4⟩ := src_at h1 (j := 0) (by omega)
  rw [e] at e2
  cases e2
  exact World.block_lt_of_cell? w _ h4
theorem open_act (h : DataW.trod enc Tryz.prog w 0 (fun _ => true) true n 41 cs = some y) (hl : Light Tryz.prog 41 y.1) : ∃ a : A16, actP w (fun k => k < w.heap.size) a cs := by
  obtain ⟨hlen, m, H⟩ := open_fields Tryz.underlying41 h hl
  rw [show Tryz.prog.cellsOf 41 = 6 from by kernel_rfl] at hlen
  obtain ⟨c0, c1, c2, c3, c4, c5, rfl⟩ : ∃ c0 c1 c2 c3 c4 c5, cs = [c0, c1, c2, c3, c4, c5] := by
    match cs, hlen with
    | [c0, c1, c2, c3, c4, c5], _ => exact ⟨_, _, _, _, _, _, rfl⟩
  obtain ⟨u0, h0, -⟩ := H 0 _ 5 0 1 rfl rfl rfl (by kernel_rfl)
  obtain ⟨u1, h1, -⟩ := H 1 _ 3 1 1 rfl rfl rfl (by kernel_rfl)
  obtain ⟨u2, h2, -⟩ := H 2 _ 23 2 1 rfl rfl rfl (by kernel_rfl)
  obtain ⟨u3, h3, l3⟩ := H 3 _ 25 3 2 rfl rfl rfl (by kernel_rfl)
  obtain ⟨u5, h5, -⟩ := H 4 _ 39 5 1 rfl rfl rfl (by kernel_rfl)
  obtain ⟨hlen3, m3, H3⟩ := open_fields Tryz.underlying25 h3 l3
  obtain ⟨v0, g0, -⟩ := H3 0 _ 23 0 1 rfl rfl rfl (by kernel_rfl)
  obtain ⟨v1, g1, -⟩ := H3 1 _ 3 1 1 rfl rfl rfl (by kernel_rfl)
  obtain ⟨m0, e0, w0⟩ := open_int1 (k := .u8) (by kernel_rfl) h0
  obtain ⟨m1, e1, w1⟩ := open_int1 (k := .i64) (by kernel_rfl) h1
  obtain ⟨m2, e2, w2⟩ := open_int1 (k := .u64) (by kernel_rfl) h2
  obtain ⟨m4, e4, w4⟩ := open_int1 (k := .u64) (by kernel_rfl) g0
  obtain ⟨m5, e5, w5⟩ := open_int1 (k := .i64) (by kernel_rfl) g1
  simp only [List.drop, List.take, List.cons.injEq, and_true] at e0 e1 e2 e4 e5 h5
  obtain ⟨xo, xn, xc, bs, e6, hin⟩ := open_bytesT h5
  subst e0 e1 e2 e4 e5 e6
  have b0 := bounds_u8 w0
  have b2 := bounds_u64 w2
  have b4 := bounds_u64 w4
  obtain ⟨j0, rfl⟩ := Int.eq_ofNat_of_zero_le b0.1
  obtain ⟨j2, rfl⟩ := Int.eq_ofNat_of_zero_le b2.1
  obtain ⟨j4, rfl⟩ := Int.eq_ofNat_of_zero_le b4.1
  exact ⟨⟨j0, m1, j2, j4, m5, bs⟩, xo, xn, xc, rfl, hin, by have := b0.2; show j0 < _; omega, by have := b2.2; show j2 < _; omega, by have := b4.2; show j4 < _; omega⟩
theorem open_acts {v : Value} (h : DataW.trod enc Tryz.prog w 0 (fun _ => true) true n 22 [v] = some y) (hl : Light Tryz.prog 22 y.1) : ∃ l, Acts w w.heap.size v l := by
  obtain ⟨l, hr, -⟩ := open_row (X := A16) (Q := actP w (fun k => k < w.heap.size)) Tryz.underlying22 (z := 6) (by kernel_rfl) (by decide) (fun n cs y hy hly _ => by
    obtain ⟨a, ha⟩ := open_act hy hly
    exact ⟨a, ha, by obtain ⟨xo, xn, xc, rfl, -⟩ := ha; simp [Value.oneCell']⟩) h hl
  exact ⟨l, hr⟩
end
/-- Great. -/
def greatM (l : List A16) : Bool := decide (100 < l.length) || l.any fun a => decide (200 < a.bytes.length)
theorem great_no {l : List A16} (h : greatM l = false) : l.length ≤ 100 ∧ ∀ a ∈ l, a.bytes.length ≤ 200 := by
  unfold greatM at h
  simp only [Bool.or_eq_false_iff, decide_eq_false_iff_not, List.any_eq_false, decide_eq_true_eq] at h
  exact ⟨by omega, fun a ha => by have := h.2 a ha; omega⟩
theorem great_any16 {B : Nat} {v : Value} {l : List A16} (w : World) (h : Acts w B v l) : Calls Tryz.prog 4 #[v] w fun e w' => e = .returned (.bool (greatM l)) ∧ w = w' := by
  obtain ⟨xo, c, rfl, hc1, hc2, hg⟩ := act_get h
  obtain ⟨gr, hgr⟩ : ∃ gr, greatM l = gr := ⟨_, rfl⟩
  rw [hgr]
  unfold greatM at hgr
  have GR := hide hgr
  have HG := hide hg
  clear h hg hgr
  by_cases h100 : 100 < l.length
  · have q1 : decide ((l.length : Int) > 100) = true := by simp; omega
    have q2 : decide ((100 : Int) < (l.length : Int)) = true := by simp; omega
    have e1 : gr = true := by rw [← GR.out]; simp [h100]
    subst e1
    clear h100 GR
    go_enter Tryz.func4, Tryz.ntmps4
    go_wp2_with fail
    go_ret
    exact ⟨rfl, rfl⟩
  · have q1 : decide ((l.length : Int) > 100) = false := by simp; omega
    have q2 : decide ((100 : Int) < (l.length : Int)) = false := by simp; omega
    have H100 := hide h100
    have hl100 : l.length ≤ 100 := by omega
    clear h100
    go_enter Tryz.func4, Tryz.ntmps4
    go_wp2_with fail
    go_loopw [3] (fun si wr => ∃ i : Nat, i ≤ l.length ∧ si = .int .i64 i ∧ (∀ j a, j < i → l[j]? = some a → a.bytes.length ≤ 200) ∧ wr = w) (fun si _ => l.length - (intOf si).toNat)
    case atStart => exact ⟨0, by omega, rfl, by omega, rfl⟩
    case round =>
      obtain ⟨i, hi, rfl, hall, rfl⟩ := hrel
      have ALL := hide hall
      clear hall
      by_cases hlt : i < l.length
      · have d5 : decide ((i : Int) < (l.length : Int)) = true := by simp; omega
        have d5' : decide (i < l.length) = true := by simpa using hlt
        obtain ⟨a, ha⟩ : ∃ a, l[i]? = some a := ⟨l[i], List.getElem?_eq_getElem hlt⟩
        obtain ⟨b, off, yo, yn, yc, rfl, hb, hin, hok, c0, c1, c2, c3, c4, c5⟩ := HG.out i a ha
        have hbl : a.bytes.length = yn := by have := hin.src.len; simpa using this
        have HA := hide ha; have BL := hide hbl
        clear c0 c1 c2 c3 c4 hin hok ha hbl
        by_cases h200 : 200 < yn
        · have q3 : decide ((yn : Int) > 200) = true := by simp; omega
          have q4 : decide ((200 : Int) < (yn : Int)) = true := by simp; omega
          have e1 : gr = true := by
            rw [← GR.out]
            simp only [Bool.or_eq_true, List.any_eq_true, decide_eq_true_eq]
            exact .inr ⟨a, List.mem_of_getElem? HA.out, by rw [BL.out]; exact h200⟩
          subst e1
          clear h200
          go_wp2_with fail
          go_ret
          exact ⟨rfl, rfl⟩
        · have q3 : decide ((yn : Int) > 200) = false := by simp; omega
          have q4 : decide ((200 : Int) < (yn : Int)) = false := by simp; omega
          have H200 := hide h200
          clear h200
          go_wp2_with fail
          go_roundw
          case rel =>
            refine ⟨i + 1, by omega, by go_num, fun j x hj hx => ?_, by first | rfl | trivial⟩
            by_cases hji : j = i
            · subst hji
              rw [HA.out] at hx
              cases hx
              have := H200.out; have := BL.out; omega
            · exact ALL.out j x (by omega) hx
          case measure => simp [intOf]; omega
      · have d5 : decide ((i : Int) < (l.length : Int)) = false := by simp; omega
        have d5' : decide (i < l.length) = false := by simpa using hlt
        have e1 : gr = false := by
          rw [← GR.out]
          simp only [Bool.or_eq_false_iff, decide_eq_false_iff_not, List.any_eq_false, decide_eq_true_eq]
          refine ⟨H100.out, fun x hx => ?_⟩
          obtain ⟨j, hj⟩ := List.mem_iff_getElem?.1 hx
          have := (List.getElem?_eq_some_iff.1 hj).1
          have := ALL.out j x (by omega) hj
          omega
        subst e1
        clear hlt
        go_wp2_with fail
        go_ret
        exact ⟨rfl, rfl⟩
end Go.Proofs.YtekbhfpdakhhkaaGreatDoor.St
