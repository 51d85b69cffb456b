/- A record is read: stable.read. -/
import Derived.Test.YtekbhfpdakhhkaaGreatDoorStTk
import Derived.Test.YtekbhfpdakhhkaaGreatDoorStG
import Derived.Test.YtekbhfpdakhhkaaGreatDoorStF
import Derived.Test.YtekbhfpdakhhkaaGreatDoorGenAll
namespace Go.Proofs.YtekbhfpdakhhkaaGreatDoor.St
set_option linter.unusedSimpArgs false
set_option linter.unusedVariables false
set_option linter.unnecessarySimpa false
open Go.RowKit Go.Lib Go.Proofs.YtekbhfpdakhhkaaGreatDoor.Crc Go.Proofs.YtekbhfpdakhhkaaGreatDoor.Var Go.Proofs.YtekbhfpdakhhkaaGreatDoor.DiskW

theorem set5_upd {S : List Nat} {w0 w : World} {B : Nat} {a' b' c' d' e' : Value} (h : Upd S w0 w) (hB : B ∈ S ∨ w0.heap.size ≤ B) :
    Upd S w0 (((((w.setCell ⟨B, 0, none⟩ a').setCell ⟨B, 1, none⟩ b').setCell ⟨B, 2, none⟩ c').setCell ⟨B, 3, none⟩ d').setCell ⟨B, 4, none⟩ e') :=
  ((((h.setCell hB _).setCell hB _).setCell hB _).setCell hB _).setCell hB _
/-- Bytes at a slice that is made since w. -/
structure FreshB (w w' : World) (ao : Option Addr) (n c : Nat) (bs : List UInt8) : Prop where
  src : SrcAt w' ao n c (bs.map u8v) 1
  le : n ≤ c
  mx : c ≤ maxLen
  new : ∀ a, ao = some a → n ≠ 0 → w.heap.size ≤ a.block ∧ a.block < w'.heap.size
theorem FreshB.nil (w w' : World) : FreshB w w' none 0 0 [] :=
  ⟨⟨rfl, by simp, fun _ => ⟨rfl, rfl⟩, fun a h => by cases h⟩, Nat.le_refl _, by simp [maxLen], fun a h => by cases h⟩
theorem FreshB.upd {w w1 w2 : World} {ao : Option Addr} {n c : Nat} {bs : List UInt8} {Y : List Nat} (h : FreshB w w1 ao n c bs) (hu : Upd Y w1 w2) (hY : ∀ a, ao = some a → n ≠ 0 → a.block ∉ Y) : FreshB w w2 ao n c bs :=
  ⟨src_upd h.src hu hY, h.le, h.mx, fun a e h0 => ⟨(h.new a e h0).1, Nat.lt_of_lt_of_le (h.new a e h0).2 hu.size⟩⟩
theorem FreshB.lies {w w' : World} {D base n c : Nat} {X : List Nat} {bv : Value} {d : DS} {ao : Option Addr} {bs : List UInt8} (h : FreshB w w' ao n c bs) (hd : DiskAt w D base bv d) (hu : Upd [] w w') (hX : ∀ k ∈ X, k < w.heap.size) : Lies w' D X ao n c bs :=
  ⟨h.src, h.le, h.mx, fun a e h0 => ⟨SafeB.fresh hd hu (by simp) (h.new a e h0).1 (h.new a e h0).2, fun hm => by
    have := hX _ hm
    have := (h.new a e h0).1
    omega⟩⟩
/-- '[]byte(s)'. -/
theorem conv_bytes (w : World) (s : List UInt8) (hs : s.length ≤ maxLen) : ∃ cap W, (convert 9 39 (.string (strOf s))).run Tryz.prog w = .ok (.slice (some ⟨w.heap.size, 0, none⟩) s.length cap) W ∧ Upd [] w W ∧ FreshB w W (some ⟨w.heap.size, 0, none⟩) s.length cap s := by
  have hr := run_bytes_of_string w 9 39 5 (strOf s) Tryz.underlying9 Tryz.underlying39 Tryz.underlying5
  have hz := strOf_size s
  rw [hz] at hr
  have hge := grownCap_ge w s.length 0 5
  have hle := grownCap_le_maxLen w s.length 0 5 hs
  generalize grownCap w s.length 0 5 = cap at hr hge hle
  have hsz0 : w.drew.heap.size = w.heap.size := rfl
  refine ⟨cap, _, hr, ((Upd.refl [] w).drewN 1).alloc _, ⟨⟨by simp, by simp [u8v, Value.oneCell'], (fun h => by cases h), fun a e j u hj => ?_⟩, hge, hle, fun a e h0 => ?_⟩⟩
  · cases e
    rw [List.getElem?_map] at hj
    have hjl : j < s.length := by
      rcases Nat.lt_or_ge j s.length with h | h
      · exact h
      · rw [List.getElem?_eq_none h] at hj; cases hj
    rw [List.getElem?_eq_getElem hjl] at hj
    cases hj
    have hat := bytesRow_at (strOf s) cap j (by simpa [strOf] using hjl)
    have hb := blk_new w.drew (.cells (bytesRow (strOf s) cap) 5 ((bytesRow (strOf s) cap).size, (bytesRow (strOf s) cap).size + 1))
    have had : (⟨w.heap.size, 0, none⟩ : Addr).add j = ⟨w.heap.size, j, none⟩ := by unfold Addr.add; split <;> simp_all
    rw [had]
    have hb' : (w.drew.alloc (.cells (bytesRow (strOf s) cap) 5 ((bytesRow (strOf s) cap).size, (bytesRow (strOf s) cap).size + 1))).heap[w.heap.size]? = _ := hb
    generalize w.drew.alloc (.cells (bytesRow (strOf s) cap) 5 ((bytesRow (strOf s) cap).size, (bytesRow (strOf s) cap).size + 1)) = W at hb' ⊢
    simp only [World.cell?, hb']
    rw [hat]
    simp [u8v, strOf]
  · cases e
    refine ⟨Nat.le_refl _, ?_⟩
    simp [hsz0]
theorem takeB_len (s : Int × List UInt8) : (takeB s).2.2.length ≤ s.2.length := by
  have h1 := uintM_len s
  have h2 := uintM_len (uintM s).2
  unfold takeB
  split
  · simp only; omega
  · split <;> (simp only; omega)
theorem textM_len (lim : Nat) (s : Int × List UInt8) : (textM lim s).1.length ≤ s.2.length := by
  have := uintM_len s
  unfold textM
  split
  · simp
  · split
    · simp
    · split
      · simp
      · simp only [List.length_take]; omega
theorem set5_blk {w : World} {B : Nat} {a b c d e a' b' c' d' e' : Value} {t : TypeId} (h : w.heap[B]? = some (.cells #[a, b, c, d, e] t (0, 0))) :
    (((((w.setCell ⟨B, 0, none⟩ a').setCell ⟨B, 1, none⟩ b').setCell ⟨B, 2, none⟩ c').setCell ⟨B, 3, none⟩ d').setCell ⟨B, 4, none⟩ e').heap[B]? = some (.cells #[a', b', c', d', e'] t (0, 0)) := blk_set (blk_set (blk_set (blk_set (blk_set h _) _) _) _) _
theorem rd_ends {fn : Func} {w W : World} {R0 vn vc : Nat} {vo : Option Addr} {x : SetM} {ok : Bool} {p u : Tmp} {a : Act} (hfn : fn.results = #[.cell p 81, .tmp u]) (hp : a.tmps.getD p undef = .pointer (some ⟨R0, 0, none⟩)) (hv : a.tmps.getD u undef = .bool ok) (hd : a.defers = [])
    (hB : W.heap[R0]? = some (setC x.kind x.slot x.b.n x.b.r (.slice vo vn vc))) (ho : FreshB w W vo vn vc x.bytes) (hu : Upd [] w W) :
    bodyPost Tryz.prog fn (fun e w' => (∃ ao n cap, e = .returned (.tuple #[setV x (.slice ao n cap), .bool ok]) ∧ FreshB w w' ao n cap x.bytes) ∧ Upd [] w w') .ret a W := by
  have z0 : W.cell? ⟨R0, 0, none⟩ = some (.int .u64 (x.kind : Int)) := blk_cell hB rfl
  have z1 : W.cell? ⟨R0, 1, none⟩ = some (.int .u64 (x.slot : Int)) := blk_cell hB rfl
  have z2 : W.cell? ⟨R0, 2, none⟩ = some (.int .u64 (x.b.n : Int)) := blk_cell hB rfl
  have z3 : W.cell? ⟨R0, 3, none⟩ = some (.int .i64 x.b.r) := blk_cell hB rfl
  have z4 : W.cell? ⟨R0, 4, none⟩ = some (.slice vo vn vc) := blk_cell hB rfl
  refine bodyPost_ret (v := .tuple #[setV x (.slice vo vn vc), .bool ok]) ?_ hd ⟨⟨_, _, _, rfl, ho⟩, hu⟩
  rw [results_cell_tmp hfn, hp, hv]
  go_simp
noncomputable def readOps9 : Array Oper := findOps 9 ((Tryz.f34.body).getD .skip)
theorem owns_upd_new {w W W' : World} {e : TypeId} {z n : Nat} {v : Value} {xs : List Value} {Y : List Nat} (h : W.ownsRow w.heap.size e z v n xs) (hu : Upd Y W W') (hY : ∀ k ∈ Y, v.ownBlock ≠ some k) : W'.ownsRow w.heap.size e z v n xs :=
  owns_upd h hu fun k hk hm => hY k hm hk
set_option maxRecDepth 100000 in
set_option maxHeartbeats 4000000 in
theorem read_any {xo : Option Addr} {m c : Nat} {bs : List UInt8} (w : World) (hs : SrcAt w xo m c (bs.map u8v) 1) (hmc : m ≤ c) (hm : m ≤ 100000) :
    Calls Tryz.prog 34 #[.slice xo m c] w fun e w' => (∃ ao n cap, e = .returned (.tuple #[setV (readS bs).1 (.slice ao n cap), .bool (readOk (readS bs))]) ∧ FreshB w w' ao n cap (readS bs).1.bytes) ∧ Upd [] w w' := by
  have hbl : bs.length = m := by have := hs.len; simpa using this
  obtain ⟨k, s1, e1⟩ : ∃ k s1, uintM (0, bs) = (k, s1) := ⟨_, _, rfl⟩
  have hk := uintM_lt (0, bs)
  have l1 := uintM_len (0, bs)
  rw [e1] at hk l1
  simp only at hk l1
  obtain ⟨res, hres⟩ : ∃ res, readS bs = res := ⟨_, rfl⟩
  rw [hres]
  have hR0 := blk_new w (.cells #[.int .u64 0, .int .u64 0, .int .u64 0, .int .i64 0, .slice none 0 0] 81)
  have hu := (Upd.refl [] w).alloc (.cells #[.int .u64 0, .int .u64 0, .int .u64 0, .int .i64 0, .slice none 0 0] 81)
  have hs2 := src_upd hs hu (by simp)
  have hT : ∀ a, xo = some a → m ≠ 0 → a.block < w.heap.size := fun a ha h0 => by
    obtain ⟨b, off, e2, h1⟩ := src_at hs (j := 0) (by omega)
    rw [ha] at e2
    cases e2
    exact World.block_lt_of_cell? w _ h1
  go_enter Tryz.func34, Tryz.ntmps34
  go_wp2_with fail
  generalize w.alloc (.cells #[.int .u64 0, .int .u64 0, .int .u64 0, .int .i64 0, .slice none 0 0] 81) = w2 at *
  refine (Var.new_any w2).mono ?_
  rintro e w3 ⟨v, rfl, rfl, hr3, hu3⟩
  have hrd : RdS w3 (fun k => k < w.heap.size) w2.heap.size (m : Int) (0, bs) := ⟨xo, m, c, hr3, fun _ => ⟨src_upd hs2 hu3 (by simp), hmc, fun a ha h0 => hT a ha h0⟩⟩
  have hz2 := hu.size
  have hR03 := hu3.get hR0 (by simp)
  have hlt := blk_lt hR0
  obtain ⟨R, hRn⟩ : ∃ R, w2.heap.size = R := ⟨_, rfl⟩
  rw [hRn] at hrd hlt ⊢
  have HR0 := hide hR03; have U3 := hide (hu.trans hu3); have E1 := hide e1; have HRS := hide hres
  have HBL := hide hbl
  clear hs hs2 hT hr3 hR0 hR03 hu hu3 e1 hres
  go_wp2_with fail
  refine (uint_s w3 hrd).mono ?_
  rw [E1.out]
  rintro e w4 ⟨rfl, h4, hu4⟩
  simp only at h4 ⊢
  have hX := blk_new w4 (.cells #[.int .u64 (k : Int), .int .u64 0, .int .u64 0, .int .i64 0, .slice none 0 0] 81)
  have hu5 := (Upd.refl [] w4).alloc (.cells #[.int .u64 (k : Int), .int .u64 0, .int .u64 0, .int .i64 0, .slice none 0 0] 81)
  have hsz5 : (w4.alloc (.cells #[.int .u64 (k : Int), .int .u64 0, .int .u64 0, .int .i64 0, .slice none 0 0] 81)).heap.size = w4.heap.size + 1 := by simp
  have hRl := RdS.lt h4
  have h5 := h4.upd hu5
  have hR05 := hu5.get (hu4.get HR0.out (by simp; omega)) (by simp)
  have hU5 := (U3.out.trans_new hu4 (fun k hk => .inr (by simp at hk; omega))).trans hu5
  have K1 : (Hid (k = 1) ∧ ((k : Int) != 1) = false ∧ ((k : Int) != 3) = true) ∨ (Hid (k = 3) ∧ ((k : Int) != 1) = true ∧ ((k : Int) != 3) = false) ∨ (Hid (k ≠ 1) ∧ Hid (k ≠ 3) ∧ ((k : Int) != 1) = true ∧ ((k : Int) != 3) = true) := by
    by_cases h1 : k = 1
    · subst h1; exact .inl ⟨hide rfl, by decide, by decide⟩
    · by_cases h3 : k = 3
      · subst h3; exact .inr (.inl ⟨hide rfl, by decide, by decide⟩)
      · exact .inr (.inr ⟨hide h1, hide h3, by simp; omega, by simp; omega⟩)
  rcases K1 with ⟨hk1, q1, q3⟩ | ⟨hk3, q1, q3⟩ | ⟨hk1, hk3, q1, q3⟩
  · go_wp2_with fail
    generalize w4.alloc (.cells #[.int .u64 (k : Int), .int .u64 0, .int .u64 0, .int .i64 0, .slice none 0 0] 81) = w5 at *
    obtain ⟨X, hXn⟩ : ∃ X, w4.heap.size = X := ⟨_, rfl⟩
    rw [hXn] at hX hRl hsz5 ⊢
    have hNX : X ∉ [R] := by simp; omega
    have HK := by first | exact hk1 | exact hk3
    have NX := hide hNX; have XX := hide hX; have H5 := hide h5; have RR := hide hR05; have UU := hide hU5
    clear hNX hX h5 hR05 hU5 hu5 hu4 h4 HR0 U3 hXn
    obtain ⟨b, e, s3, e3⟩ : ∃ b e s3, takeB s1 = ((b, e), s3) := ⟨_, _, _, rfl⟩
    have E3 := hide e3
    clear e3
    refine (take_any w5 H5.out).mono ?_
    rw [E3.out]
    rintro en w6 ⟨rfl, h6, hu6⟩
    have hX6 := hu6.get XX.out NX.out
    have x0 := blk_cell (i := 0) hX6 rfl
    have x1 := blk_cell (i := 1) hX6 rfl
    have x2 := blk_cell (i := 2) hX6 rfl
    have x3 := blk_cell (i := 3) hX6 rfl
    have x4 := blk_cell (i := 4) hX6 rfl
    have f0 := blk_free (i := 0) hX6
    have f1 := blk_free (i := 1) hX6
    have f2 := blk_free (i := 2) hX6
    have f3 := blk_free (i := 3) hX6
    have f4 := blk_free (i := 4) hX6
    go_upto_region 9 with fail
    have hXW : ((w6.setCell ⟨X, 2, none⟩ (.int .u64 (b.n : Int))).setCell ⟨X, 3, none⟩ (.int .i64 b.r)).heap[X]? = some (setC k 0 b.n b.r (.slice none 0 0)) := blk_set (blk_set hX6 _) _
    have hu7 : Upd [X] w6 ((w6.setCell ⟨X, 2, none⟩ (.int .u64 (b.n : Int))).setCell ⟨X, 3, none⟩ (.int .i64 b.r)) := ((Upd.refl [X] w6).setCell (.inl (by simp)) _).setCell (.inl (by simp)) _
    generalize (w6.setCell ⟨X, 2, none⟩ (.int .u64 (b.n : Int))).setCell ⟨X, 3, none⟩ (.int .i64 b.r) = W at *
    have hDW : RdS W (fun k => k < w.heap.size) R (m : Int) s3 := h6.updS hu7 (by simp; omega) (fun k hk => by simp at hk; omega)
    have hRW := hu7.get (hu6.get RR.out (by simp; omega)) (by simp; omega)
    have hUW := (UU.out.trans_new hu6 (fun k hk => .inr (by simp at hk; omega))).trans_new hu7 (fun k hk => .inr (by simp at hk; omega))
    have hread : readS bs = (⟨k, 0, b, []⟩, e, s3) := by
      unfold readS; simp only; rw [E1.out]; simp only; rw [HK.out]; simp only [ne_eq, not_true_eq_false, if_false, show ¬ (1 : Nat) = 3 by decide, not_false_eq_true, if_true]; rw [E3.out]
    have hOW : FreshB w W none 0 0 [] := FreshB.nil w W
    have hvX : ∀ a : Addr, (none : Option Addr) = some a → (0 : Nat) ≠ 0 → a.block ∉ [R, w.heap.size] := fun a h => by cases h
    obtain ⟨bn, br⟩ := b
    have hres2 := HRS.out.symm.trans hread
    clear HRS hread
    subst hres2
    obtain ⟨dn, s5, ed⟩ : ∃ dn s5, doneM s3 = (dn, s5) := ⟨_, _, rfl⟩
    have X0 := hide (show W.cell? ⟨X, 0, none⟩ = some (.int .u64 (k : Int)) from blk_cell hXW rfl)
    have X1 := hide (show W.cell? ⟨X, 1, none⟩ = some _ from blk_cell hXW rfl)
    have X2 := hide (show W.cell? ⟨X, 2, none⟩ = some _ from blk_cell hXW rfl)
    have X3 := hide (show W.cell? ⟨X, 3, none⟩ = some _ from blk_cell hXW rfl)
    have X4 := hide (show W.cell? ⟨X, 4, none⟩ = some _ from blk_cell hXW rfl)
    have hNX : X ∉ [R, w.heap.size] := by simp; omega
    have NX2 := hide hNX; have ED := hide ed; have RW := hide hRW; have DW := hide hDW; have UW := hide hUW; have OW := hide hOW; have VX := hide hvX
    clear hNX ed hRW hDW hUW hOW hvX hXW
    have s0 : Upd [R, w.heap.size] W (W.drewN 1) := (Upd.refl _ W).drewN 1
    have d0 : Upd [] W (W.drewN 1) := (Upd.refl _ W).drewN 1
    by_cases he : e = 0
    · have qe : (e == 0) = true := by simpa using he
      have hok : readOk (⟨k, 0, ⟨bn, br⟩, []⟩, e, s3) = (dn == 0) := by
        have := HK.out
        rw [Bool.eq_iff_iff]
        simp [readOk, he, this, ED.out]
      have HOK := hide hok
      have KF := hide (show fnV ((mfind kindsL k).getD none) = .func (.func 68) #[] #[] by rw [HK.out]; rfl)
      clear he hok
      refine wp_region_seqP readOps9 (by kernel_rfl) [4, 7, 12, 15] [0, 1, 2, 3, 5, 6, 4, 7, 8, 9, 10, 11, 12, 13, 14, 15, 16] (fun wx => Upd [R, w.heap.size] W wx) (by kernel_rfl) (by kernel_rfl) (fun _ _ d _ _ h => by cases d <;> exact h) s0 ?_
      simp only [pickO, List.filterMap_cons, List.filterMap_nil, List.getElem?_cons_succ, List.getElem?_cons_zero]
      refine wpSeqP_take (by kernel_rfl) (by kernel_rfl) ?_
      apply Exists.intro
      refine ⟨fun wx hS => ?_, fun a' ha => ?_⟩
      · have c0 := Rec.cell_keep hS X0.out NX2.out;have c1 := Rec.cell_keep hS X1.out NX2.out;have c2 := Rec.cell_keep hS X2.out NX2.out;have c3 := Rec.cell_keep hS X3.out NX2.out;have c4 := Rec.cell_keep hS X4.out NX2.out; go_simp; rfl
      simp only [Act.put, List.setIfInBounds_toArray, List.set_cons_succ, List.set_cons_zero] at ha
      subst ha
      refine wpSeqP_take (by kernel_rfl) (by kernel_rfl) ?_
      apply Exists.intro
      refine ⟨fun wx hS => ?_, fun a' ha => ?_⟩
      · go_simp; rfl
      simp only [Act.put, List.setIfInBounds_toArray, List.set_cons_succ, List.set_cons_zero] at ha
      subst ha
      refine wpSeqP_take (by kernel_rfl) (by kernel_rfl) ?_
      apply Exists.intro
      refine ⟨fun wx hS => ?_, fun a' ha => ?_⟩
      · go_simp; rfl
      simp only [Act.put, List.setIfInBounds_toArray, List.set_cons_succ, List.set_cons_zero] at ha
      subst ha
      refine wpSeqP_take (by kernel_rfl) (by kernel_rfl) ?_
      apply Exists.intro
      refine ⟨fun wx hS => ?_, fun a' ha => ?_⟩
      · go_simp; rfl
      simp only [Act.put, List.setIfInBounds_toArray, List.set_cons_succ, List.set_cons_zero] at ha
      subst ha
      refine wpSeqP_take (by kernel_rfl) (by kernel_rfl) ?_
      apply Exists.intro
      refine ⟨fun wx hS => ?_, fun a' ha => ?_⟩
      · go_simp; rfl
      simp only [Act.put, List.setIfInBounds_toArray, List.set_cons_succ, List.set_cons_zero] at ha
      subst ha
      refine wpSeqP_take (by kernel_rfl) (by kernel_rfl) ?_
      apply Exists.intro
      refine ⟨fun wx hS => ?_, fun a' ha => ?_⟩
      · have c0 := Rec.cell_keep hS X0.out NX2.out; go_simp; rfl
      simp only [Act.put, List.setIfInBounds_toArray, List.set_cons_succ, List.set_cons_zero] at ha
      subst ha
      refine wpSeqP_one (by kernel_rfl) (by kernel_rfl) (fun K hK => ?_)
      go_simp
      refine (does_any (W.drewN 1)).mono ?_
      rintro en w9 ⟨rfl, hk9, hu9⟩
      obtain ⟨G, hG⟩ : ∃ G, (W.drewN 1).heap.size = G := ⟨_, rfl⟩
      rw [hG] at hk9 ⊢
      clear hG
      have d9 := d0.trans hu9
      have s9 := s0.trans (hu9.mono (by simp))
      have hlk : (Instr.lookup 86 (.map (some G)) (.int .u64 (k : Int)) false).run Tryz.prog w9 = .ok (fnV ((mfind kindsL k).getD none)) w9 := MapKind.look1 hk9 (k := k) hk
      rw [KF.out] at hlk
      clear hk9 hu9
      refine hK _ _ (s9) ?_
      clear hK K
      try simp only [Act.put, List.setIfInBounds_toArray, List.set_cons_succ, List.set_cons_zero]
      refine wpSeqP_one (by kernel_rfl) (by kernel_rfl) (fun K hK => ?_)
      go_simp
      refine hK _ _ (s9) ?_
      clear hK K
      try simp only [Act.put, List.setIfInBounds_toArray, List.set_cons_succ, List.set_cons_zero]
      clear hlk
      refine wpSeqP_take (by kernel_rfl) (by kernel_rfl) ?_
      apply Exists.intro
      refine ⟨fun wx hS => ?_, fun a' ha => ?_⟩
      · go_simp; rfl
      simp only [Act.put, List.setIfInBounds_toArray, List.set_cons_succ, List.set_cons_zero] at ha
      subst ha
      refine wpSeqP_take (by kernel_rfl) (by kernel_rfl) ?_
      apply Exists.intro
      refine ⟨fun wx hS => ?_, fun a' ha => ?_⟩
      · go_simp; rfl
      simp only [Act.put, List.setIfInBounds_toArray, List.set_cons_succ, List.set_cons_zero] at ha
      subst ha
      refine wpSeqP_take (by kernel_rfl) (by kernel_rfl) ?_
      apply Exists.intro
      refine ⟨fun wx hS => ?_, fun a' ha => ?_⟩
      · go_simp; rfl
      simp only [Act.put, List.setIfInBounds_toArray, List.set_cons_succ, List.set_cons_zero] at ha
      subst ha
      refine wpSeqP_take (by kernel_rfl) (by kernel_rfl) ?_
      apply Exists.intro
      refine ⟨fun wx hS => ?_, fun a' ha => ?_⟩
      · go_simp; rfl
      simp only [Act.put, List.setIfInBounds_toArray, List.set_cons_succ, List.set_cons_zero] at ha
      subst ha
      refine wpSeqP_one (by kernel_rfl) (by kernel_rfl) (fun K hK => ?_)
      go_simp
      refine (done_s w9 (DW.out.upd d9)).mono ?_
      rw [ED.out]
      rintro en wd ⟨rfl, hrdd, hud⟩
      have sz := s9.trans (hud.mono (by simp))
      have RZ := hide (hud.get (d9.get RW.out (by simp)) (by simp; omega))
      have UZ := hide ((UW.out.trans d9).trans_new hud (fun k hk => .inr (by simp at hk; omega))); have OZ := hide ((OW.out.upd d9 (by simp)).upd hud (fun a h1 h2 hm => VX.out a h1 h2 (by simp at hm ⊢; exact .inl hm)))
      clear hrdd hud s9
      refine hK _ _ (sz) ?_
      clear hK K
      try simp only [Act.put, List.setIfInBounds_toArray, List.set_cons_succ, List.set_cons_zero]
      refine wpSeqP_take (by kernel_rfl) (by kernel_rfl) ?_
      apply Exists.intro
      refine ⟨fun wx hS => ?_, fun a' ha => ?_⟩
      · go_simp; rfl
      simp only [Act.put, List.setIfInBounds_toArray, List.set_cons_succ, List.set_cons_zero] at ha
      subst ha
      refine wpSeqP_take (by kernel_rfl) (by kernel_rfl) ?_
      apply Exists.intro
      refine ⟨fun wx hS => ?_, fun a' ha => ?_⟩
      · go_simp; rfl
      simp only [Act.put, List.setIfInBounds_toArray, List.set_cons_succ, List.set_cons_zero] at ha
      subst ha
      have z0 := blk_cell (i := 0) RZ.out rfl
      have z1 := blk_cell (i := 1) RZ.out rfl
      have z2 := blk_cell (i := 2) RZ.out rfl
      have z3 := blk_cell (i := 3) RZ.out rfl
      have z4 := blk_cell (i := 4) RZ.out rfl
      have f0 := blk_free (i := 0) RZ.out
      have f1 := blk_free (i := 1) RZ.out
      have f2 := blk_free (i := 2) RZ.out
      have f3 := blk_free (i := 3) RZ.out
      have f4 := blk_free (i := 4) RZ.out
      refine wpSeqP_one (by kernel_rfl) (by kernel_rfl) (fun K hK => ?_)
      go_simp
      clear z0 z1 z2 z3 z4 f0 f1 f2 f3 f4
      refine hK _ _ (set5_upd (B := w.heap.size) sz (.inl (by simp))) ?_
      clear hK K
      try simp only [Act.put, List.setIfInBounds_toArray, List.set_cons_succ, List.set_cons_zero]
      refine wpSeqP_take (by kernel_rfl) (by kernel_rfl) ?_
      apply Exists.intro
      refine ⟨fun wx hS => ?_, fun a' ha => ?_⟩
      · go_simp; rfl
      simp only [Act.put, List.setIfInBounds_toArray, List.set_cons_succ, List.set_cons_zero] at ha
      subst ha
      unfold wpSeqP
      go_wp2_with fail
      rw [HOK.out]
      exact rd_ends rfl rfl rfl rfl (set5_blk RZ.out) (OZ.out.upd (set5_upd (Upd.refl [w.heap.size] _) (.inl (by simp))) fun a h1 h2 => fun hm => VX.out a h1 h2 (by simp at hm ⊢; exact .inr hm)) (set5_upd UZ.out (.inr (Nat.le_refl _)))
    · have qe : (e == 0) = false := by simpa using he
      have hok : readOk (⟨k, 0, ⟨bn, br⟩, []⟩, e, s3) = false := by simp [readOk, he]
      have HOK := hide hok
      clear he hok
      refine wp_region_seqP readOps9 (by kernel_rfl) [4, 7, 12, 15] [0, 1, 2, 3, 5, 6, 4, 7, 8, 9, 10, 11, 12, 13, 14, 15, 16] (fun wx => Upd [R, w.heap.size] W wx) (by kernel_rfl) (by kernel_rfl) (fun _ _ d _ _ h => by cases d <;> exact h) s0 ?_
      simp only [pickO, List.filterMap_cons, List.filterMap_nil, List.getElem?_cons_succ, List.getElem?_cons_zero]
      refine wpSeqP_take (by kernel_rfl) (by kernel_rfl) ?_
      apply Exists.intro
      refine ⟨fun wx hS => ?_, fun a' ha => ?_⟩
      · have c0 := Rec.cell_keep hS X0.out NX2.out;have c1 := Rec.cell_keep hS X1.out NX2.out;have c2 := Rec.cell_keep hS X2.out NX2.out;have c3 := Rec.cell_keep hS X3.out NX2.out;have c4 := Rec.cell_keep hS X4.out NX2.out; go_simp; rfl
      simp only [Act.put, List.setIfInBounds_toArray, List.set_cons_succ, List.set_cons_zero] at ha
      subst ha
      refine wpSeqP_take (by kernel_rfl) (by kernel_rfl) ?_
      apply Exists.intro
      refine ⟨fun wx hS => ?_, fun a' ha => ?_⟩
      · go_simp; rfl
      simp only [Act.put, List.setIfInBounds_toArray, List.set_cons_succ, List.set_cons_zero] at ha
      subst ha
      refine wpSeqP_take (by kernel_rfl) (by kernel_rfl) ?_
      apply Exists.intro
      refine ⟨fun wx hS => ?_, fun a' ha => ?_⟩
      · go_simp; rfl
      simp only [Act.put, List.setIfInBounds_toArray, List.set_cons_succ, List.set_cons_zero] at ha
      subst ha
      refine wpSeqP_take (by kernel_rfl) (by kernel_rfl) ?_
      apply Exists.intro
      refine ⟨fun wx hS => ?_, fun a' ha => ?_⟩
      · go_simp; rfl
      simp only [Act.put, List.setIfInBounds_toArray, List.set_cons_succ, List.set_cons_zero] at ha
      subst ha
      refine wpSeqP_skip (by kernel_rfl) (fun a' ha => ?_)
      simp only [Act.put, List.setIfInBounds_toArray, List.set_cons_succ, List.set_cons_zero] at ha
      subst ha
      refine wpSeqP_skip (by kernel_rfl) (fun a' ha => ?_)
      simp only [Act.put, List.setIfInBounds_toArray, List.set_cons_succ, List.set_cons_zero] at ha
      subst ha
      refine wpSeqP_skip (by kernel_rfl) (fun a' ha => ?_)
      simp only [Act.put, List.setIfInBounds_toArray, List.set_cons_succ, List.set_cons_zero] at ha
      subst ha
      refine wpSeqP_skip (by kernel_rfl) (fun a' ha => ?_)
      simp only [Act.put, List.setIfInBounds_toArray, List.set_cons_succ, List.set_cons_zero] at ha
      subst ha
      refine wpSeqP_skip (by kernel_rfl) (fun a' ha => ?_)
      simp only [Act.put, List.setIfInBounds_toArray, List.set_cons_succ, List.set_cons_zero] at ha
      subst ha
      refine wpSeqP_take (by kernel_rfl) (by kernel_rfl) ?_
      apply Exists.intro
      refine ⟨fun wx hS => ?_, fun a' ha => ?_⟩
      · go_simp; rfl
      simp only [Act.put, List.setIfInBounds_toArray, List.set_cons_succ, List.set_cons_zero] at ha
      subst ha
      refine wpSeqP_take (by kernel_rfl) (by kernel_rfl) ?_
      apply Exists.intro
      refine ⟨fun wx hS => ?_, fun a' ha => ?_⟩
      · go_simp; rfl
      simp only [Act.put, List.setIfInBounds_toArray, List.set_cons_succ, List.set_cons_zero] at ha
      subst ha
      refine wpSeqP_skip (by kernel_rfl) (fun a' ha => ?_)
      simp only [Act.put, List.setIfInBounds_toArray, List.set_cons_succ, List.set_cons_zero] at ha
      subst ha
      refine wpSeqP_skip (by kernel_rfl) (fun a' ha => ?_)
      simp only [Act.put, List.setIfInBounds_toArray, List.set_cons_succ, List.set_cons_zero] at ha
      subst ha
      refine wpSeqP_skip (by kernel_rfl) (fun a' ha => ?_)
      simp only [Act.put, List.setIfInBounds_toArray, List.set_cons_succ, List.set_cons_zero] at ha
      subst ha
      refine wpSeqP_take (by kernel_rfl) (by kernel_rfl) ?_
      apply Exists.intro
      refine ⟨fun wx hS => ?_, fun a' ha => ?_⟩
      · go_simp; rfl
      simp only [Act.put, List.setIfInBounds_toArray, List.set_cons_succ, List.set_cons_zero] at ha
      subst ha
      have RZ := hide (d0.get RW.out (by simp))
      have UZ := hide (UW.out.trans d0); have OZ := hide (OW.out.upd d0 (by simp))
      have sz := s0
      have z0 := blk_cell (i := 0) RZ.out rfl
      have z1 := blk_cell (i := 1) RZ.out rfl
      have z2 := blk_cell (i := 2) RZ.out rfl
      have z3 := blk_cell (i := 3) RZ.out rfl
      have z4 := blk_cell (i := 4) RZ.out rfl
      have f0 := blk_free (i := 0) RZ.out
      have f1 := blk_free (i := 1) RZ.out
      have f2 := blk_free (i := 2) RZ.out
      have f3 := blk_free (i := 3) RZ.out
      have f4 := blk_free (i := 4) RZ.out
      refine wpSeqP_one (by kernel_rfl) (by kernel_rfl) (fun K hK => ?_)
      go_simp
      clear z0 z1 z2 z3 z4 f0 f1 f2 f3 f4
      refine hK _ _ (set5_upd (B := w.heap.size) sz (.inl (by simp))) ?_
      clear hK K
      try simp only [Act.put, List.setIfInBounds_toArray, List.set_cons_succ, List.set_cons_zero]
      refine wpSeqP_take (by kernel_rfl) (by kernel_rfl) ?_
      apply Exists.intro
      refine ⟨fun wx hS => ?_, fun a' ha => ?_⟩
      · go_simp; rfl
      simp only [Act.put, List.setIfInBounds_toArray, List.set_cons_succ, List.set_cons_zero] at ha
      subst ha
      unfold wpSeqP
      go_wp2_with fail
      rw [HOK.out]
      exact rd_ends rfl rfl rfl rfl (set5_blk RZ.out) (OZ.out.upd (set5_upd (Upd.refl [w.heap.size] _) (.inl (by simp))) fun a h1 h2 => fun hm => VX.out a h1 h2 (by simp at hm ⊢; exact .inr hm)) (set5_upd UZ.out (.inr (Nat.le_refl _)))
  · go_wp2_with fail
    generalize w4.alloc (.cells #[.int .u64 (k : Int), .int .u64 0, .int .u64 0, .int .i64 0, .slice none 0 0] 81) = w5 at *
    obtain ⟨X, hXn⟩ : ∃ X, w4.heap.size = X := ⟨_, rfl⟩
    rw [hXn] at hX hRl hsz5 ⊢
    have hNX : X ∉ [R] := by simp; omega
    have HK := by first | exact hk1 | exact hk3
    have NX := hide hNX; have XX := hide hX; have H5 := hide h5; have RR := hide hR05; have UU := hide hU5
    clear hNX hX h5 hR05 hU5 hu5 hu4 h4 HR0 U3 hXn
    obtain ⟨sl, s2, e2⟩ : ∃ sl s2, uintM s1 = (sl, s2) := ⟨_, _, rfl⟩
    obtain ⟨tx, s3, e3⟩ : ∃ tx s3, textM m s2 = (tx, s3) := ⟨_, _, rfl⟩
    have l2 := uintM_len s1
    rw [e2] at l2
    simp only at l2
    have E2 := hide e2; have E3 := hide e3
    clear e2 e3
    refine (uint_s w5 H5.out).mono ?_
    rw [E2.out]
    rintro en w6 ⟨rfl, h6, hu6⟩
    have hX6 := hu6.get XX.out NX.out
    have x0 := blk_cell (i := 0) hX6 rfl
    have x1 := blk_cell (i := 1) hX6 rfl
    have x2 := blk_cell (i := 2) hX6 rfl
    have x3 := blk_cell (i := 3) hX6 rfl
    have x4 := blk_cell (i := 4) hX6 rfl
    have f0 := blk_free (i := 0) hX6
    have f1 := blk_free (i := 1) hX6
    have f2 := blk_free (i := 2) hX6
    have f3 := blk_free (i := 3) hX6
    have f4 := blk_free (i := 4) hX6
    go_wp2_with fail
    have hX7 : (w6.setCell ⟨X, 1, none⟩ (.int .u64 (sl : Int))).heap[X]? = some (setC k sl 0 0 (.slice none 0 0)) := blk_set hX6 _
    have hu7 : Upd [X] w6 (w6.setCell ⟨X, 1, none⟩ (.int .u64 (sl : Int))) := (Upd.refl [X] w6).setCell (.inl (by simp)) _
    generalize w6.setCell ⟨X, 1, none⟩ (.int .u64 (sl : Int)) = w7 at *
    have h7 : RdS w7 (fun k => k < w.heap.size) R (m : Int) s2 := h6.updS hu7 (by simp; omega) (fun k hk => by simp at hk; omega)
    refine (text_s w7 h7 (by omega) (by omega)).mono ?_
    rw [E3.out]
    rintro en w8 ⟨rfl, h8, hu8⟩
    clear x0 x1 x2 x3 x4 f0 f1 f2 f3 f4
    have hX8 := hu8.get hX7 NX.out
    have x0 := blk_cell (i := 0) hX8 rfl
    have x1 := blk_cell (i := 1) hX8 rfl
    have x2 := blk_cell (i := 2) hX8 rfl
    have x3 := blk_cell (i := 3) hX8 rfl
    have x4 := blk_cell (i := 4) hX8 rfl
    have f0 := blk_free (i := 0) hX8
    have f1 := blk_free (i := 1) hX8
    have f2 := blk_free (i := 2) hX8
    have f3 := blk_free (i := 3) hX8
    have f4 := blk_free (i := 4) hX8
    have ltx : tx.length ≤ m := by have := textM_len m s2; rw [E3.out] at this; simp only at this; omega
    obtain ⟨vc, w9, hcv, hu9, hf9⟩ := conv_bytes w8 tx (by unfold maxLen; omega)
    have hX9 := hu9.get hX8 (by simp)
    clear x0 x1 x2 x3 x4 f0 f1 f2 f3 f4
    have f4 := blk_free (i := 4) hX9
    have x4 := blk_cell (i := 4) hX9 rfl
    have x0 := blk_cell (i := 0) hX9 rfl
    go_upto_region 9 with fail
    have hXW : (w9.setCell ⟨X, 4, none⟩ (.slice (some ⟨w8.heap.size, 0, none⟩) tx.length vc)).heap[X]? = some (setC k _ _ _ (.slice (some ⟨w8.heap.size, 0, none⟩) tx.length vc)) := blk_set hX9 _
    have huW : Upd [X] w9 (w9.setCell ⟨X, 4, none⟩ (.slice (some ⟨w8.heap.size, 0, none⟩) tx.length vc)) := (Upd.refl [X] w9).setCell (.inl (by simp)) _
    have zX : X < w8.heap.size := blk_lt hX8
    generalize w9.setCell ⟨X, 4, none⟩ (.slice (some ⟨w8.heap.size, 0, none⟩) tx.length vc) = W at *
    have hDW : RdS W (fun k => k < w.heap.size) R (m : Int) s3 := (h8.upd hu9).updS huW (by simp; omega) (fun k hk => by simp at hk; omega)
    have hRW := huW.get (hu9.get (hu8.get (hu7.get (hu6.get RR.out (by simp; omega)) (by simp; omega)) (by simp; omega)) (by simp)) (by simp; omega)
    have hUW := (((((UU.out.trans_new hu6 (fun k hk => .inr (by simp at hk; omega))).trans_new hu7 (fun k hk => .inr (by simp at hk; omega))).trans_new hu8 (fun k hk => .inr (by simp at hk; omega))).trans hu9)).trans_new huW (fun k hk => .inr (by simp at hk; omega))
    have hOW9 : FreshB w w9 (some ⟨w8.heap.size, 0, none⟩) tx.length vc tx := ⟨hf9.src, hf9.le, hf9.mx, fun a h1 h2 => by have := hf9.new a h1 h2; exact ⟨by omega, this.2⟩⟩
    have hOW : FreshB w W (some ⟨w8.heap.size, 0, none⟩) tx.length vc tx := hOW9.upd huW (fun a h1 h2 => by cases h1; simp; omega)
    have hvX : ∀ a : Addr, (some ⟨w8.heap.size, 0, none⟩ : Option Addr) = some a → tx.length ≠ 0 → a.block ∉ [R, w.heap.size] := fun a h1 h2 => by cases h1; simp; omega
    clear hOW9 hf9 hu9 huW zX hX8 hX9 hcv
    obtain ⟨bn, br, hbn, hbr⟩ : ∃ (bn : Nat) (br : Int), bn = 0 ∧ br = 0 := ⟨_, _, rfl, rfl⟩
    have hread : readS bs = (⟨k, sl, ⟨bn, br⟩, tx⟩, 0, s3) := by
      rw [hbn, hbr]
      unfold readS; simp only; rw [E1.out]; simp only; rw [HK.out]; simp only [ne_eq, not_true_eq_false, if_false, show ¬ (3 : Nat) = 1 by decide, not_false_eq_true, if_true]; rw [E2.out]; simp only; rw [HBL.out, E3.out]; rfl
    have hXW' : W.heap[X]? = some (setC k sl bn br (.slice (some ⟨w8.heap.size, 0, none⟩) tx.length vc)) := by rw [hbn, hbr]; exact hXW
    clear hXW hbn hbr
    have hXW := hXW'
    clear hXW'
    have hres2 := HRS.out.symm.trans hread
    clear HRS hread
    subst hres2
    obtain ⟨dn, s5, ed⟩ : ∃ dn s5, doneM s3 = (dn, s5) := ⟨_, _, rfl⟩
    have X0 := hide (show W.cell? ⟨X, 0, none⟩ = some (.int .u64 (k : Int)) from blk_cell hXW rfl)
    have X1 := hide (show W.cell? ⟨X, 1, none⟩ = some _ from blk_cell hXW rfl)
    have X2 := hide (show W.cell? ⟨X, 2, none⟩ = some _ from blk_cell hXW rfl)
    have X3 := hide (show W.cell? ⟨X, 3, none⟩ = some _ from blk_cell hXW rfl)
    have X4 := hide (show W.cell? ⟨X, 4, none⟩ = some _ from blk_cell hXW rfl)
    have hNX : X ∉ [R, w.heap.size] := by simp; omega
    have NX2 := hide hNX; have ED := hide ed; have RW := hide hRW; have DW := hide hDW; have UW := hide hUW; have OW := hide hOW; have VX := hide hvX
    clear hNX ed hRW hDW hUW hOW hvX hXW
    have s0 : Upd [R, w.heap.size] W (W.drewN 1) := (Upd.refl _ W).drewN 1
    have d0 : Upd [] W (W.drewN 1) := (Upd.refl _ W).drewN 1
    have qe : ((0 : Int) == 0) = true := rfl
    have hok : readOk (⟨k, sl, ⟨bn, br⟩, tx⟩, 0, s3) = (dn == 0) := by
      have := HK.out
      rw [Bool.eq_iff_iff]
      simp [readOk, this, ED.out]
    have HOK := hide hok
    have KF := hide (show fnV ((mfind kindsL k).getD none) = .func (.func 70) #[] #[] by rw [HK.out]; rfl)
    clear hok
    refine wp_region_seqP readOps9 (by kernel_rfl) [4, 7, 12, 15] [0, 1, 2, 3, 5, 6, 4, 7, 8, 9, 10, 11, 12, 13, 14, 15, 16] (fun wx => Upd [R, w.heap.size] W wx) (by kernel_rfl) (by kernel_rfl) (fun _ _ d _ _ h => by cases d <;> exact h) s0 ?_
    simp only [pickO, List.filterMap_cons, List.filterMap_nil, List.getElem?_cons_succ, List.getElem?_cons_zero]
    refine wpSeqP_take (by kernel_rfl) (by kernel_rfl) ?_
    apply Exists.intro
    refine ⟨fun wx hS => ?_, fun a' ha => ?_⟩
    · have c0 := Rec.cell_keep hS X0.out NX2.out;have c1 := Rec.cell_keep hS X1.out NX2.out;have c2 := Rec.cell_keep hS X2.out NX2.out;have c3 := Rec.cell_keep hS X3.out NX2.out;have c4 := Rec.cell_keep hS X4.out NX2.out; go_simp; rfl
    simp only [Act.put, List.setIfInBounds_toArray, List.set_cons_succ, List.set_cons_zero] at ha
    subst ha
    refine wpSeqP_take (by kernel_rfl) (by kernel_rfl) ?_
    apply Exists.intro
    refine ⟨fun wx hS => ?_, fun a' ha => ?_⟩
    · go_simp; rfl
    simp only [Act.put, List.setIfInBounds_toArray, List.set_cons_succ, List.set_cons_zero] at ha
    subst ha
    refine wpSeqP_take (by kernel_rfl) (by kernel_rfl) ?_
    apply Exists.intro
    refine ⟨fun wx hS => ?_, fun a' ha => ?_⟩
    · go_simp; rfl
    simp only [Act.put, List.setIfInBounds_toArray, List.set_cons_succ, List.set_cons_zero] at ha
    subst ha
    refine wpSeqP_take (by kernel_rfl) (by kernel_rfl) ?_
    apply Exists.intro
    refine ⟨fun wx hS => ?_, fun a' ha => ?_⟩
    · go_simp; rfl
    simp only [Act.put, List.setIfInBounds_toArray, List.set_cons_succ, List.set_cons_zero] at ha
    subst ha
    refine wpSeqP_take (by kernel_rfl) (by kernel_rfl) ?_
    apply Exists.intro
    refine ⟨fun wx hS => ?_, fun a' ha => ?_⟩
    · go_simp; rfl
    simp only [Act.put, List.setIfInBounds_toArray, List.set_cons_succ, List.set_cons_zero] at ha
    subst ha
    refine wpSeqP_take (by kernel_rfl) (by kernel_rfl) ?_
    apply Exists.intro
    refine ⟨fun wx hS => ?_, fun a' ha => ?_⟩
    · have c0 := Rec.cell_keep hS X0.out NX2.out; go_simp; rfl
    simp only [Act.put, List.setIfInBounds_toArray, List.set_cons_succ, List.set_cons_zero] at ha
    subst ha
    refine wpSeqP_one (by kernel_rfl) (by kernel_rfl) (fun K hK => ?_)
    go_simp
    refine (does_any (W.drewN 1)).mono ?_
    rintro en w9 ⟨rfl, hk9, hu9⟩
    obtain ⟨G, hG⟩ : ∃ G, (W.drewN 1).heap.size = G := ⟨_, rfl⟩
    rw [hG] at hk9 ⊢
    clear hG
    have d9 := d0.trans hu9
    have s9 := s0.trans (hu9.mono (by simp))
    have hlk : (Instr.lookup 86 (.map (some G)) (.int .u64 (k : Int)) false).run Tryz.prog w9 = .ok (fnV ((mfind kindsL k).getD none)) w9 := MapKind.look1 hk9 (k := k) hk
    rw [KF.out] at hlk
    clear hk9 hu9
    refine hK _ _ (s9) ?_
    clear hK K
    try simp only [Act.put, List.setIfInBounds_toArray, List.set_cons_succ, List.set_cons_zero]
    refine wpSeqP_one (by kernel_rfl) (by kernel_rfl) (fun K hK => ?_)
    go_simp
    refine hK _ _ (s9) ?_
    clear hK K
    try simp only [Act.put, List.setIfInBounds_toArray, List.set_cons_succ, List.set_cons_zero]
    clear hlk
    refine wpSeqP_take (by kernel_rfl) (by kernel_rfl) ?_
    apply Exists.intro
    refine ⟨fun wx hS => ?_, fun a' ha => ?_⟩
    · go_simp; rfl
    simp only [Act.put, List.setIfInBounds_toArray, List.set_cons_succ, List.set_cons_zero] at ha
    subst ha
    refine wpSeqP_take (by kernel_rfl) (by kernel_rfl) ?_
    apply Exists.intro
    refine ⟨fun wx hS => ?_, fun a' ha => ?_⟩
    · go_simp; rfl
    simp only [Act.put, List.setIfInBounds_toArray, List.set_cons_succ, List.set_cons_zero] at ha
    subst ha
    refine wpSeqP_take (by kernel_rfl) (by kernel_rfl) ?_
    apply Exists.intro
    refine ⟨fun wx hS => ?_, fun a' ha => ?_⟩
    · go_simp; rfl
    simp only [Act.put, List.setIfInBounds_toArray, List.set_cons_succ, List.set_cons_zero] at ha
    subst ha
    refine wpSeqP_take (by kernel_rfl) (by kernel_rfl) ?_
    apply Exists.intro
    refine ⟨fun wx hS => ?_, fun a' ha => ?_⟩
    · go_simp; rfl
    simp only [Act.put, List.setIfInBounds_toArray, List.set_cons_succ, List.set_cons_zero] at ha
    subst ha
    refine wpSeqP_one (by kernel_rfl) (by kernel_rfl) (fun K hK => ?_)
    go_simp
    refine (done_s w9 (DW.out.upd d9)).mono ?_
    rw [ED.out]
    rintro en wd ⟨rfl, hrdd, hud⟩
    have sz := s9.trans (hud.mono (by simp))
    have RZ := hide (hud.get (d9.get RW.out (by simp)) (by simp; omega))
    have UZ := hide ((UW.out.trans d9).trans_new hud (fun k hk => .inr (by simp at hk; omega))); have OZ := hide ((OW.out.upd d9 (by simp)).upd hud (fun a h1 h2 hm => VX.out a h1 h2 (by simp at hm ⊢; exact .inl hm)))
    clear hrdd hud s9
    refine hK _ _ (sz) ?_
    clear hK K
    try simp only [Act.put, List.setIfInBounds_toArray, List.set_cons_succ, List.set_cons_zero]
    refine wpSeqP_take (by kernel_rfl) (by kernel_rfl) ?_
    apply Exists.intro
    refine ⟨fun wx hS => ?_, fun a' ha => ?_⟩
    · go_simp; rfl
    simp only [Act.put, List.setIfInBounds_toArray, List.set_cons_succ, List.set_cons_zero] at ha
    subst ha
    refine wpSeqP_take (by kernel_rfl) (by kernel_rfl) ?_
    apply Exists.intro
    refine ⟨fun wx hS => ?_, fun a' ha => ?_⟩
    · go_simp; rfl
    simp only [Act.put, List.setIfInBounds_toArray, List.set_cons_succ, List.set_cons_zero] at ha
    subst ha
    have z0 := blk_cell (i := 0) RZ.out rfl
    have z1 := blk_cell (i := 1) RZ.out rfl
    have z2 := blk_cell (i := 2) RZ.out rfl
    have z3 := blk_cell (i := 3) RZ.out rfl
    have z4 := blk_cell (i := 4) RZ.out rfl
    have f0 := blk_free (i := 0) RZ.out
    have f1 := blk_free (i := 1) RZ.out
    have f2 := blk_free (i := 2) RZ.out
    have f3 := blk_free (i := 3) RZ.out
    have f4 := blk_free (i := 4) RZ.out
    refine wpSeqP_one (by kernel_rfl) (by kernel_rfl) (fun K hK => ?_)
    go_simp
    clear z0 z1 z2 z3 z4 f0 f1 f2 f3 f4
    refine hK _ _ (set5_upd (B := w.heap.size) sz (.inl (by simp))) ?_
    clear hK K
    try simp only [Act.put, List.setIfInBounds_toArray, List.set_cons_succ, List.set_cons_zero]
    refine wpSeqP_take (by kernel_rfl) (by kernel_rfl) ?_
    apply Exists.intro
    refine ⟨fun wx hS => ?_, fun a' ha => ?_⟩
    · go_simp; rfl
    simp only [Act.put, List.setIfInBounds_toArray, List.set_cons_succ, List.set_cons_zero] at ha
    subst ha
    unfold wpSeqP
    go_wp2_with fail
    rw [HOK.out]
    exact rd_ends rfl rfl rfl rfl (set5_blk RZ.out) (OZ.out.upd (set5_upd (Upd.refl [w.heap.size] _) (.inl (by simp))) fun a h1 h2 => fun hm => VX.out a h1 h2 (by simp at hm ⊢; exact .inr hm)) (set5_upd UZ.out (.inr (Nat.le_refl _)))
  · go_wp2_with fail
    generalize w4.alloc (.cells #[.int .u64 (k : Int), .int .u64 0, .int .u64 0, .int .i64 0, .slice none 0 0] 81) = w5 at *
    obtain ⟨X, hXn⟩ : ∃ X, w4.heap.size = X := ⟨_, rfl⟩
    rw [hXn] at hX hRl hsz5 ⊢
    have hNX : X ∉ [R] := by simp; omega
    have HK := by first | exact hk1 | exact hk3
    have NX := hide hNX; have XX := hide hX; have H5 := hide h5; have RR := hide hR05; have UU := hide hU5
    clear hNX hX h5 hR05 hU5 hu5 hu4 h4 HR0 U3 hXn
    obtain ⟨sl, s2, e2⟩ : ∃ sl s2, uintM s1 = (sl, s2) := ⟨_, _, rfl⟩
    obtain ⟨b, e, sb, eb⟩ : ∃ b e s3, takeB s2 = ((b, e), s3) := ⟨_, _, _, rfl⟩
    obtain ⟨tx, s3, e3⟩ : ∃ tx s3, textM m sb = (tx, s3) := ⟨_, _, rfl⟩
    have l2 := uintM_len s1
    rw [e2] at l2
    simp only at l2
    have l3 : sb.2.length ≤ s2.2.length := by
      have := takeB_len s2
      rw [eb] at this
      exact this
    have E2 := hide e2; have E3 := hide e3; have EB := hide eb
    clear e2 e3 eb
    refine (uint_s w5 H5.out).mono ?_
    rw [E2.out]
    rintro en wa ⟨rfl, ha, hua⟩
    have hX6 := hua.get XX.out NX.out
    have x0 := blk_cell (i := 0) hX6 rfl
    have x1 := blk_cell (i := 1) hX6 rfl
    have x2 := blk_cell (i := 2) hX6 rfl
    have x3 := blk_cell (i := 3) hX6 rfl
    have x4 := blk_cell (i := 4) hX6 rfl
    have f0 := blk_free (i := 0) hX6
    have f1 := blk_free (i := 1) hX6
    have f2 := blk_free (i := 2) hX6
    have f3 := blk_free (i := 3) hX6
    have f4 := blk_free (i := 4) hX6
    go_wp2_with fail
    have hXb : (wa.setCell ⟨X, 1, none⟩ (.int .u64 (sl : Int))).heap[X]? = some (setC k sl 0 0 (.slice none 0 0)) := blk_set hX6 _
    have hub : Upd [X] wa (wa.setCell ⟨X, 1, none⟩ (.int .u64 (sl : Int))) := (Upd.refl [X] wa).setCell (.inl (by simp)) _
    generalize wa.setCell ⟨X, 1, none⟩ (.int .u64 (sl : Int)) = wb at *
    have hb : RdS wb (fun k => k < w.heap.size) R (m : Int) s2 := ha.updS hub (by simp; omega) (fun k hk => by simp at hk; omega)
    have hUb := (UU.out.trans_new hua (fun k hk => .inr (by simp at hk; omega))).trans_new hub (fun k hk => .inr (by simp at hk; omega))
    have hRb := hub.get (hua.get RR.out (by simp; omega)) (by simp; omega)
    clear x0 x1 x2 x3 x4 f0 f1 f2 f3 f4 hX6 ha hua hub UU RR
    have UU := hide hUb; have RR := hide hRb
    clear hUb hRb
    refine (take_any wb hb).mono ?_
    rw [EB.out]
    rintro en w6 ⟨rfl, h6, hu6⟩
    have hX6 := hu6.get hXb NX.out
    have x0 := blk_cell (i := 0) hX6 rfl
    have x1 := blk_cell (i := 1) hX6 rfl
    have x2 := blk_cell (i := 2) hX6 rfl
    have x3 := blk_cell (i := 3) hX6 rfl
    have x4 := blk_cell (i := 4) hX6 rfl
    have f0 := blk_free (i := 0) hX6
    have f1 := blk_free (i := 1) hX6
    have f2 := blk_free (i := 2) hX6
    have f3 := blk_free (i := 3) hX6
    have f4 := blk_free (i := 4) hX6
    obtain ⟨bn, br⟩ := b
    go_wp2_with fail
    have hX7 : ((w6.setCell ⟨X, 2, none⟩ (.int .u64 (bn : Int))).setCell ⟨X, 3, none⟩ (.int .i64 br)).heap[X]? = some (setC k sl bn br (.slice none 0 0)) := blk_set (blk_set hX6 _) _
    have hu7 : Upd [X] w6 ((w6.setCell ⟨X, 2, none⟩ (.int .u64 (bn : Int))).setCell ⟨X, 3, none⟩ (.int .i64 br)) := ((Upd.refl [X] w6).setCell (.inl (by simp)) _).setCell (.inl (by simp)) _
    generalize (w6.setCell ⟨X, 2, none⟩ (.int .u64 (bn : Int))).setCell ⟨X, 3, none⟩ (.int .i64 br) = w7 at *
    have h7 : RdS w7 (fun k => k < w.heap.size) R (m : Int) sb := h6.updS hu7 (by simp; omega) (fun k hk => by simp at hk; omega)
    refine (text_s w7 h7 (by omega) (by omega)).mono ?_
    rw [E3.out]
    rintro en w8 ⟨rfl, h8, hu8⟩
    clear x0 x1 x2 x3 x4 f0 f1 f2 f3 f4
    have hX8 := hu8.get hX7 NX.out
    have x0 := blk_cell (i := 0) hX8 rfl
    have x1 := blk_cell (i := 1) hX8 rfl
    have x2 := blk_cell (i := 2) hX8 rfl
    have x3 := blk_cell (i := 3) hX8 rfl
    have x4 := blk_cell (i := 4) hX8 rfl
    have f0 := blk_free (i := 0) hX8
    have f1 := blk_free (i := 1) hX8
    have f2 := blk_free (i := 2) hX8
    have f3 := blk_free (i := 3) hX8
    have f4 := blk_free (i := 4) hX8
    have ltx : tx.length ≤ m := by have := textM_len m sb; rw [E3.out] at this; simp only at this; omega
    obtain ⟨vc, w9, hcv, hu9, hf9⟩ := conv_bytes w8 tx (by unfold maxLen; omega)
    have hX9 := hu9.get hX8 (by simp)
    clear x0 x1 x2 x3 x4 f0 f1 f2 f3 f4
    have f4 := blk_free (i := 4) hX9
    have x4 := blk_cell (i := 4) hX9 rfl
    have x0 := blk_cell (i := 0) hX9 rfl
    go_upto_region 9 with fail
    have hXW : (w9.setCell ⟨X, 4, none⟩ (.slice (some ⟨w8.heap.size, 0, none⟩) tx.length vc)).heap[X]? = some (setC k _ _ _ (.slice (some ⟨w8.heap.size, 0, none⟩) tx.length vc)) := blk_set hX9 _
    have huW : Upd [X] w9 (w9.setCell ⟨X, 4, none⟩ (.slice (some ⟨w8.heap.size, 0, none⟩) tx.length vc)) := (Upd.refl [X] w9).setCell (.inl (by simp)) _
    have zX : X < w8.heap.size := blk_lt hX8
    generalize w9.setCell ⟨X, 4, none⟩ (.slice (some ⟨w8.heap.size, 0, none⟩) tx.length vc) = W at *
    have hDW : RdS W (fun k => k < w.heap.size) R (m : Int) s3 := (h8.upd hu9).updS huW (by simp; omega) (fun k hk => by simp at hk; omega)
    have hRW := huW.get (hu9.get (hu8.get (hu7.get (hu6.get RR.out (by simp; omega)) (by simp; omega)) (by simp; omega)) (by simp)) (by simp; omega)
    have hUW := (((((UU.out.trans_new hu6 (fun k hk => .inr (by simp at hk; omega))).trans_new hu7 (fun k hk => .inr (by simp at hk; omega))).trans_new hu8 (fun k hk => .inr (by simp at hk; omega))).trans hu9)).trans_new huW (fun k hk => .inr (by simp at hk; omega))
    have hOW9 : FreshB w w9 (some ⟨w8.heap.size, 0, none⟩) tx.length vc tx := ⟨hf9.src, hf9.le, hf9.mx, fun a h1 h2 => by have := hf9.new a h1 h2; exact ⟨by omega, this.2⟩⟩
    have hOW : FreshB w W (some ⟨w8.heap.size, 0, none⟩) tx.length vc tx := hOW9.upd huW (fun a h1 h2 => by cases h1; simp; omega)
    have hvX : ∀ a : Addr, (some ⟨w8.heap.size, 0, none⟩ : Option Addr) = some a → tx.length ≠ 0 → a.block ∉ [R, w.heap.size] := fun a h1 h2 => by cases h1; simp; omega
    clear hOW9 hf9 hu9 huW zX hX8 hX9 hcv
    have hread : readS bs = (⟨k, sl, ⟨bn, br⟩, tx⟩, e, s3) := by
      unfold readS; simp only; rw [E1.out]; simp only; rw [if_pos hk1.out, if_pos hk3.out, if_pos hk1.out, E2.out]; simp only; rw [EB.out]; simp only; rw [HBL.out, E3.out]
    have hres2 := HRS.out.symm.trans hread
    clear HRS hread
    subst hres2
    obtain ⟨dn, s5, ed⟩ : ∃ dn s5, doneM s3 = (dn, s5) := ⟨_, _, rfl⟩
    have X0 := hide (show W.cell? ⟨X, 0, none⟩ = some (.int .u64 (k : Int)) from blk_cell hXW rfl)
    have X1 := hide (show W.cell? ⟨X, 1, none⟩ = some _ from blk_cell hXW rfl)
    have X2 := hide (show W.cell? ⟨X, 2, none⟩ = some _ from blk_cell hXW rfl)
    have X3 := hide (show W.cell? ⟨X, 3, none⟩ = some _ from blk_cell hXW rfl)
    have X4 := hide (show W.cell? ⟨X, 4, none⟩ = some _ from blk_cell hXW rfl)
    have hNX : X ∉ [R, w.heap.size] := by simp; omega
    have NX2 := hide hNX; have ED := hide ed; have RW := hide hRW; have DW := hide hDW; have UW := hide hUW; have OW := hide hOW; have VX := hide hvX
    clear hNX ed hRW hDW hUW hOW hvX hXW
    have s0 : Upd [R, w.heap.size] W (W.drewN 1) := (Upd.refl _ W).drewN 1
    have d0 : Upd [] W (W.drewN 1) := (Upd.refl _ W).drewN 1
    by_cases he : e = 0
    · have qe : (e == 0) = true := by simpa using he
      by_cases hk2 : k = 2
      · have hok : readOk (⟨k, sl, ⟨bn, br⟩, tx⟩, e, s3) = (dn == 0) := by
          rw [Bool.eq_iff_iff]
          simp [readOk, he, hk2, ED.out]
        have HOK := hide hok
        have KF := hide (show fnV ((mfind kindsL k).getD none) = .func (.func 69) #[] #[] by rw [hk2]; rfl)
        clear he hok hk2
        refine wp_region_seqP readOps9 (by kernel_rfl) [4, 7, 12, 15] [0, 1, 2, 3, 5, 6, 4, 7, 8, 9, 10, 11, 12, 13, 14, 15, 16] (fun wx => Upd [R, w.heap.size] W wx) (by kernel_rfl) (by kernel_rfl) (fun _ _ d _ _ h => by cases d <;> exact h) s0 ?_
        simp only [pickO, List.filterMap_cons, List.filterMap_nil, List.getElem?_cons_succ, List.getElem?_cons_zero]
        refine wpSeqP_take (by kernel_rfl) (by kernel_rfl) ?_
        apply Exists.intro
        refine ⟨fun wx hS => ?_, fun a' ha => ?_⟩
        · have c0 := Rec.cell_keep hS X0.out NX2.out;have c1 := Rec.cell_keep hS X1.out NX2.out;have c2 := Rec.cell_keep hS X2.out NX2.out;have c3 := Rec.cell_keep hS X3.out NX2.out;have c4 := Rec.cell_keep hS X4.out NX2.out; go_simp; rfl
        simp only [Act.put, List.setIfInBounds_toArray, List.set_cons_succ, List.set_cons_zero] at ha
        subst ha
        refine wpSeqP_take (by kernel_rfl) (by kernel_rfl) ?_
        apply Exists.intro
        refine ⟨fun wx hS => ?_, fun a' ha => ?_⟩
        · go_simp; rfl
        simp only [Act.put, List.setIfInBounds_toArray, List.set_cons_succ, List.set_cons_zero] at ha
        subst ha
        refine wpSeqP_take (by kernel_rfl) (by kernel_rfl) ?_
        apply Exists.intro
        refine ⟨fun wx hS => ?_, fun a' ha => ?_⟩
        · go_simp; rfl
        simp only [Act.put, List.setIfInBounds_toArray, List.set_cons_succ, List.set_cons_zero] at ha
        subst ha
        refine wpSeqP_take (by kernel_rfl) (by kernel_rfl) ?_
        apply Exists.intro
        refine ⟨fun wx hS => ?_, fun a' ha => ?_⟩
        · go_simp; rfl
        simp only [Act.put, List.setIfInBounds_toArray, List.set_cons_succ, List.set_cons_zero] at ha
        subst ha
        refine wpSeqP_take (by kernel_rfl) (by kernel_rfl) ?_
        apply Exists.intro
        refine ⟨fun wx hS => ?_, fun a' ha => ?_⟩
        · go_simp; rfl
        simp only [Act.put, List.setIfInBounds_toArray, List.set_cons_succ, List.set_cons_zero] at ha
        subst ha
        refine wpSeqP_take (by kernel_rfl) (by kernel_rfl) ?_
        apply Exists.intro
        refine ⟨fun wx hS => ?_, fun a' ha => ?_⟩
        · have c0 := Rec.cell_keep hS X0.out NX2.out; go_simp; rfl
        simp only [Act.put, List.setIfInBounds_toArray, List.set_cons_succ, List.set_cons_zero] at ha
        subst ha
        refine wpSeqP_one (by kernel_rfl) (by kernel_rfl) (fun K hK => ?_)
        go_simp
        refine (does_any (W.drewN 1)).mono ?_
        rintro en w9 ⟨rfl, hk9, hu9⟩
        obtain ⟨G, hG⟩ : ∃ G, (W.drewN 1).heap.size = G := ⟨_, rfl⟩
        rw [hG] at hk9 ⊢
        clear hG
        have d9 := d0.trans hu9
        have s9 := s0.trans (hu9.mono (by simp))
        have hlk : (Instr.lookup 86 (.map (some G)) (.int .u64 (k : Int)) false).run Tryz.prog w9 = .ok (fnV ((mfind kindsL k).getD none)) w9 := MapKind.look1 hk9 (k := k) hk
        rw [KF.out] at hlk
        clear hk9 hu9
        refine hK _ _ (s9) ?_
        clear hK K
        try simp only [Act.put, List.setIfInBounds_toArray, List.set_cons_succ, List.set_cons_zero]
        refine wpSeqP_one (by kernel_rfl) (by kernel_rfl) (fun K hK => ?_)
        go_simp
        refine hK _ _ (s9) ?_
        clear hK K
        try simp only [Act.put, List.setIfInBounds_toArray, List.set_cons_succ, List.set_cons_zero]
        clear hlk
        refine wpSeqP_take (by kernel_rfl) (by kernel_rfl) ?_
        apply Exists.intro
        refine ⟨fun wx hS => ?_, fun a' ha => ?_⟩
        · go_simp; rfl
        simp only [Act.put, List.setIfInBounds_toArray, List.set_cons_succ, List.set_cons_zero] at ha
        subst ha
        refine wpSeqP_take (by kernel_rfl) (by kernel_rfl) ?_
        apply Exists.intro
        refine ⟨fun wx hS => ?_, fun a' ha => ?_⟩
        · go_simp; rfl
        simp only [Act.put, List.setIfInBounds_toArray, List.set_cons_succ, List.set_cons_zero] at ha
        subst ha
        refine wpSeqP_take (by kernel_rfl) (by kernel_rfl) ?_
        apply Exists.intro
        refine ⟨fun wx hS => ?_, fun a' ha => ?_⟩
        · go_simp; rfl
        simp only [Act.put, List.setIfInBounds_toArray, List.set_cons_succ, List.set_cons_zero] at ha
        subst ha
        refine wpSeqP_take (by kernel_rfl) (by kernel_rfl) ?_
        apply Exists.intro
        refine ⟨fun wx hS => ?_, fun a' ha => ?_⟩
        · go_simp; rfl
        simp only [Act.put, List.setIfInBounds_toArray, List.set_cons_succ, List.set_cons_zero] at ha
        subst ha
        refine wpSeqP_one (by kernel_rfl) (by kernel_rfl) (fun K hK => ?_)
        go_simp
        refine (done_s w9 (DW.out.upd d9)).mono ?_
        rw [ED.out]
        rintro en wd ⟨rfl, hrdd, hud⟩
        have sz := s9.trans (hud.mono (by simp))
        have RZ := hide (hud.get (d9.get RW.out (by simp)) (by simp; omega))
        have UZ := hide ((UW.out.trans d9).trans_new hud (fun k hk => .inr (by simp at hk; omega))); have OZ := hide ((OW.out.upd d9 (by simp)).upd hud (fun a h1 h2 hm => VX.out a h1 h2 (by simp at hm ⊢; exact .inl hm)))
        clear hrdd hud s9
        refine hK _ _ (sz) ?_
        clear hK K
        try simp only [Act.put, List.setIfInBounds_toArray, List.set_cons_succ, List.set_cons_zero]
        refine wpSeqP_take (by kernel_rfl) (by kernel_rfl) ?_
        apply Exists.intro
        refine ⟨fun wx hS => ?_, fun a' ha => ?_⟩
        · go_simp; rfl
        simp only [Act.put, List.setIfInBounds_toArray, List.set_cons_succ, List.set_cons_zero] at ha
        subst ha
        refine wpSeqP_take (by kernel_rfl) (by kernel_rfl) ?_
        apply Exists.intro
        refine ⟨fun wx hS => ?_, fun a' ha => ?_⟩
        · go_simp; rfl
        simp only [Act.put, List.setIfInBounds_toArray, List.set_cons_succ, List.set_cons_zero] at ha
        subst ha
        have z0 := blk_cell (i := 0) RZ.out rfl
        have z1 := blk_cell (i := 1) RZ.out rfl
        have z2 := blk_cell (i := 2) RZ.out rfl
        have z3 := blk_cell (i := 3) RZ.out rfl
        have z4 := blk_cell (i := 4) RZ.out rfl
        have f0 := blk_free (i := 0) RZ.out
        have f1 := blk_free (i := 1) RZ.out
        have f2 := blk_free (i := 2) RZ.out
        have f3 := blk_free (i := 3) RZ.out
        have f4 := blk_free (i := 4) RZ.out
        refine wpSeqP_one (by kernel_rfl) (by kernel_rfl) (fun K hK => ?_)
        go_simp
        clear z0 z1 z2 z3 z4 f0 f1 f2 f3 f4
        refine hK _ _ (set5_upd (B := w.heap.size) sz (.inl (by simp))) ?_
        clear hK K
        try simp only [Act.put, List.setIfInBounds_toArray, List.set_cons_succ, List.set_cons_zero]
        refine wpSeqP_take (by kernel_rfl) (by kernel_rfl) ?_
        apply Exists.intro
        refine ⟨fun wx hS => ?_, fun a' ha => ?_⟩
        · go_simp; rfl
        simp only [Act.put, List.setIfInBounds_toArray, List.set_cons_succ, List.set_cons_zero] at ha
        subst ha
        unfold wpSeqP
        go_wp2_with fail
        rw [HOK.out]
        exact rd_ends rfl rfl rfl rfl (set5_blk RZ.out) (OZ.out.upd (set5_upd (Upd.refl [w.heap.size] _) (.inl (by simp))) fun a h1 h2 => fun hm => VX.out a h1 h2 (by simp at hm ⊢; exact .inr hm)) (set5_upd UZ.out (.inr (Nat.le_refl _)))
      · have hok : readOk (⟨k, sl, ⟨bn, br⟩, tx⟩, e, s3) = false := by
          have h1 := hk1.out
          have h3 := hk3.out
          simp [readOk, hk2, h1, h3]
        have HOK := hide hok
        have KF := hide (show fnV ((mfind kindsL k).getD none) = .nilFunc by rw [kinds_find, if_neg hk1.out, if_neg hk2, if_neg hk3.out]; rfl)
        clear he hok hk2
        refine wp_region_seqP readOps9 (by kernel_rfl) [4, 7, 12, 15] [0, 1, 2, 3, 5, 6, 4, 7, 8, 9, 10, 11, 12, 13, 14, 15, 16] (fun wx => Upd [R, w.heap.size] W wx) (by kernel_rfl) (by kernel_rfl) (fun _ _ d _ _ h => by cases d <;> exact h) s0 ?_
        simp only [pickO, List.filterMap_cons, List.filterMap_nil, List.getElem?_cons_succ, List.getElem?_cons_zero]
        refine wpSeqP_take (by kernel_rfl) (by kernel_rfl) ?_
        apply Exists.intro
        refine ⟨fun wx hS => ?_, fun a' ha => ?_⟩
        · have c0 := Rec.cell_keep hS X0.out NX2.out;have c1 := Rec.cell_keep hS X1.out NX2.out;have c2 := Rec.cell_keep hS X2.out NX2.out;have c3 := Rec.cell_keep hS X3.out NX2.out;have c4 := Rec.cell_keep hS X4.out NX2.out; go_simp; rfl
        simp only [Act.put, List.setIfInBounds_toArray, List.set_cons_succ, List.set_cons_zero] at ha
        subst ha
        refine wpSeqP_take (by kernel_rfl) (by kernel_rfl) ?_
        apply Exists.intro
        refine ⟨fun wx hS => ?_, fun a' ha => ?_⟩
        · go_simp; rfl
        simp only [Act.put, List.setIfInBounds_toArray, List.set_cons_succ, List.set_cons_zero] at ha
        subst ha
        refine wpSeqP_take (by kernel_rfl) (by kernel_rfl) ?_
        apply Exists.intro
        refine ⟨fun wx hS => ?_, fun a' ha => ?_⟩
        · go_simp; rfl
        simp only [Act.put, List.setIfInBounds_toArray, List.set_cons_succ, List.set_cons_zero] at ha
        subst ha
        refine wpSeqP_take (by kernel_rfl) (by kernel_rfl) ?_
        apply Exists.intro
        refine ⟨fun wx hS => ?_, fun a' ha => ?_⟩
        · go_simp; rfl
        simp only [Act.put, List.setIfInBounds_toArray, List.set_cons_succ, List.set_cons_zero] at ha
        subst ha
        refine wpSeqP_take (by kernel_rfl) (by kernel_rfl) ?_
        apply Exists.intro
        refine ⟨fun wx hS => ?_, fun a' ha => ?_⟩
        · go_simp; rfl
        simp only [Act.put, List.setIfInBounds_toArray, List.set_cons_succ, List.set_cons_zero] at ha
        subst ha
        refine wpSeqP_take (by kernel_rfl) (by kernel_rfl) ?_
        apply Exists.intro
        refine ⟨fun wx hS => ?_, fun a' ha => ?_⟩
        · have c0 := Rec.cell_keep hS X0.out NX2.out; go_simp; rfl
        simp only [Act.put, List.setIfInBounds_toArray, List.set_cons_succ, List.set_cons_zero] at ha
        subst ha
        refine wpSeqP_one (by kernel_rfl) (by kernel_rfl) (fun K hK => ?_)
        go_simp
        refine (does_any (W.drewN 1)).mono ?_
        rintro en w9 ⟨rfl, hk9, hu9⟩
        obtain ⟨G, hG⟩ : ∃ G, (W.drewN 1).heap.size = G := ⟨_, rfl⟩
        rw [hG] at hk9 ⊢
        clear hG
        have d9 := d0.trans hu9
        have s9 := s0.trans (hu9.mono (by simp))
        have hlk : (Instr.lookup 86 (.map (some G)) (.int .u64 (k : Int)) false).run Tryz.prog w9 = .ok (fnV ((mfind kindsL k).getD none)) w9 := MapKind.look1 hk9 (k := k) hk
        rw [KF.out] at hlk
        clear hk9 hu9
        refine hK _ _ (s9) ?_
        clear hK K
        try simp only [Act.put, List.setIfInBounds_toArray, List.set_cons_succ, List.set_cons_zero]
        refine wpSeqP_one (by kernel_rfl) (by kernel_rfl) (fun K hK => ?_)
        go_simp
        refine hK _ _ (s9) ?_
        clear hK K
        try simp only [Act.put, List.setIfInBounds_toArray, List.set_cons_succ, List.set_cons_zero]
        clear hlk
        refine wpSeqP_take (by kernel_rfl) (by kernel_rfl) ?_
        apply Exists.intro
        refine ⟨fun wx hS => ?_, fun a' ha => ?_⟩
        · go_simp; rfl
        simp only [Act.put, List.setIfInBounds_toArray, List.set_cons_succ, List.set_cons_zero] at ha
        subst ha
        refine wpSeqP_take (by kernel_rfl) (by kernel_rfl) ?_
        apply Exists.intro
        refine ⟨fun wx hS => ?_, fun a' ha => ?_⟩
        · go_simp; rfl
        simp only [Act.put, List.setIfInBounds_toArray, List.set_cons_succ, List.set_cons_zero] at ha
        subst ha
        refine wpSeqP_take (by kernel_rfl) (by kernel_rfl) ?_
        apply Exists.intro
        refine ⟨fun wx hS => ?_, fun a' ha => ?_⟩
        · go_simp; rfl
        simp only [Act.put, List.setIfInBounds_toArray, List.set_cons_succ, List.set_cons_zero] at ha
        subst ha
        refine wpSeqP_skip (by kernel_rfl) (fun a' ha => ?_)
        simp only [Act.put, List.setIfInBounds_toArray, List.set_cons_succ, List.set_cons_zero] at ha
        subst ha
        refine wpSeqP_skip (by kernel_rfl) (fun a' ha => ?_)
        simp only [Act.put, List.setIfInBounds_toArray, List.set_cons_succ, List.set_cons_zero] at ha
        subst ha
        refine wpSeqP_skip (by kernel_rfl) (fun a' ha => ?_)
        simp only [Act.put, List.setIfInBounds_toArray, List.set_cons_succ, List.set_cons_zero] at ha
        subst ha
        refine wpSeqP_take (by kernel_rfl) (by kernel_rfl) ?_
        apply Exists.intro
        refine ⟨fun wx hS => ?_, fun a' ha => ?_⟩
        · go_simp; rfl
        simp only [Act.put, List.setIfInBounds_toArray, List.set_cons_succ, List.set_cons_zero] at ha
        subst ha
        have RZ := hide (d9.get RW.out (by simp))
        have UZ := hide (UW.out.trans d9); have OZ := hide (OW.out.upd d9 (by simp))
        have sz := s9
        have z0 := blk_cell (i := 0) RZ.out rfl
        have z1 := blk_cell (i := 1) RZ.out rfl
        have z2 := blk_cell (i := 2) RZ.out rfl
        have z3 := blk_cell (i := 3) RZ.out rfl
        have z4 := blk_cell (i := 4) RZ.out rfl
        have f0 := blk_free (i := 0) RZ.out
        have f1 := blk_free (i := 1) RZ.out
        have f2 := blk_free (i := 2) RZ.out
        have f3 := blk_free (i := 3) RZ.out
        have f4 := blk_free (i := 4) RZ.out
        refine wpSeqP_one (by kernel_rfl) (by kernel_rfl) (fun K hK => ?_)
        go_simp
        clear z0 z1 z2 z3 z4 f0 f1 f2 f3 f4
        refine hK _ _ (set5_upd (B := w.heap.size) sz (.inl (by simp))) ?_
        clear hK K
        try simp only [Act.put, List.setIfInBounds_toArray, List.set_cons_succ, List.set_cons_zero]
        refine wpSeqP_take (by kernel_rfl) (by kernel_rfl) ?_
        apply Exists.intro
        refine ⟨fun wx hS => ?_, fun a' ha => ?_⟩
        · go_simp; rfl
        simp only [Act.put, List.setIfInBounds_toArray, List.set_cons_succ, List.set_cons_zero] at ha
        subst ha
        unfold wpSeqP
        go_wp2_with fail
        rw [HOK.out]
        exact rd_ends rfl rfl rfl rfl (set5_blk RZ.out) (OZ.out.upd (set5_upd (Upd.refl [w.heap.size] _) (.inl (by simp))) fun a h1 h2 => fun hm => VX.out a h1 h2 (by simp at hm ⊢; exact .inr hm)) (set5_upd UZ.out (.inr (Nat.le_refl _)))
    · have qe : (e == 0) = false := by simpa using he
      have hok : readOk (⟨k, sl, ⟨bn, br⟩, tx⟩, e, s3) = false := by simp [readOk, he]
      have HOK := hide hok
      clear he hok
      refine wp_region_seqP readOps9 (by kernel_rfl) [4, 7, 12, 15] [0, 1, 2, 3, 5, 6, 4, 7, 8, 9, 10, 11, 12, 13, 14, 15, 16] (fun wx => Upd [R, w.heap.size] W wx) (by kernel_rfl) (by kernel_rfl) (fun _ _ d _ _ h => by cases d <;> exact h) s0 ?_
      simp only [pickO, List.filterMap_cons, List.filterMap_nil, List.getElem?_cons_succ, List.getElem?_cons_zero]
      refine wpSeqP_take (by kernel_rfl) (by kernel_rfl) ?_
      apply Exists.intro
      refine ⟨fun wx hS => ?_, fun a' ha => ?_⟩
      · have c0 := Rec.cell_keep hS X0.out NX2.out;have c1 := Rec.cell_keep hS X1.out NX2.out;have c2 := Rec.cell_keep hS X2.out NX2.out;have c3 := Rec.cell_keep hS X3.out NX2.out;have c4 := Rec.cell_keep hS X4.out NX2.out; go_simp; rfl
      simp only [Act.put, List.setIfInBounds_toArray, List.set_cons_succ, List.set_cons_zero] at ha
      subst ha
      refine wpSeqP_take (by kernel_rfl) (by kernel_rfl) ?_
      apply Exists.intro
      refine ⟨fun wx hS => ?_, fun a' ha => ?_⟩
      · go_simp; rfl
      simp only [Act.put, List.setIfInBounds_toArray, List.set_cons_succ, List.set_cons_zero] at ha
      subst ha
      refine wpSeqP_take (by kernel_rfl) (by kernel_rfl) ?_
      apply Exists.intro
      refine ⟨fun wx hS => ?_, fun a' ha => ?_⟩
      · go_simp; rfl
      simp only [Act.put, List.setIfInBounds_toArray, List.set_cons_succ, List.set_cons_zero] at ha
      subst ha
      refine wpSeqP_take (by kernel_rfl) (by kernel_rfl) ?_
      apply Exists.intro
      refine ⟨fun wx hS => ?_, fun a' ha => ?_⟩
      · go_simp; rfl
      simp only [Act.put, List.setIfInBounds_toArray, List.set_cons_succ, List.set_cons_zero] at ha
      subst ha
      refine wpSeqP_skip (by kernel_rfl) (fun a' ha => ?_)
      simp only [Act.put, List.setIfInBounds_toArray, List.set_cons_succ, List.set_cons_zero] at ha
      subst ha
      refine wpSeqP_skip (by kernel_rfl) (fun a' ha => ?_)
      simp only [Act.put, List.setIfInBounds_toArray, List.set_cons_succ, List.set_cons_zero] at ha
      subst ha
      refine wpSeqP_skip (by kernel_rfl) (fun a' ha => ?_)
      simp only [Act.put, List.setIfInBounds_toArray, List.set_cons_succ, List.set_cons_zero] at ha
      subst ha
      refine wpSeqP_skip (by kernel_rfl) (fun a' ha => ?_)
      simp only [Act.put, List.setIfInBounds_toArray, List.set_cons_succ, List.set_cons_zero] at ha
      subst ha
      refine wpSeqP_skip (by kernel_rfl) (fun a' ha => ?_)
      simp only [Act.put, List.setIfInBounds_toArray, List.set_cons_succ, List.set_cons_zero] at ha
      subst ha
      refine wpSeqP_take (by kernel_rfl) (by kernel_rfl) ?_
      apply Exists.intro
      refine ⟨fun wx hS => ?_, fun a' ha => ?_⟩
      · go_simp; rfl
      simp only [Act.put, List.setIfInBounds_toArray, List.set_cons_succ, List.set_cons_zero] at ha
      subst ha
      refine wpSeqP_take (by kernel_rfl) (by kernel_rfl) ?_
      apply Exists.intro
      refine ⟨fun wx hS => ?_, fun a' ha => ?_⟩
      · go_simp; rfl
      simp only [Act.put, List.setIfInBounds_toArray, List.set_cons_succ, List.set_cons_zero] at ha
      subst ha
      refine wpSeqP_skip (by kernel_rfl) (fun a' ha => ?_)
      simp only [Act.put, List.setIfInBounds_toArray, List.set_cons_succ, List.set_cons_zero] at ha
      subst ha
      refine wpSeqP_skip (by kernel_rfl) (fun a' ha => ?_)
      simp only [Act.put, List.setIfInBounds_toArray, List.set_cons_succ, List.set_cons_zero] at ha
      subst ha
      refine wpSeqP_skip (by kernel_rfl) (fun a' ha => ?_)
      simp only [Act.put, List.setIfInBounds_toArray, List.set_cons_succ, List.set_cons_zero] at ha
      subst ha
      refine wpSeqP_take (by kernel_rfl) (by kernel_rfl) ?_
      apply Exists.intro
      refine ⟨fun wx hS => ?_, fun a' ha => ?_⟩
      · go_simp; rfl
      simp only [Act.put, List.setIfInBounds_toArray, List.set_cons_succ, List.set_cons_zero] at ha
      subst ha
      have RZ := hide (d0.get RW.out (by simp))
      have UZ := hide (UW.out.trans d0); have OZ := hide (OW.out.upd d0 (by simp))
      have sz := s0
      have z0 := blk_cell (i := 0) RZ.out rfl
      have z1 := blk_cell (i := 1) RZ.out rfl
      have z2 := blk_cell (i := 2) RZ.out rfl
      have z3 := blk_cell (i := 3) RZ.out rfl
      have z4 := blk_cell (i := 4) RZ.out rfl
      have f0 := blk_free (i := 0) RZ.out
      have f1 := blk_free (i := 1) RZ.out
      have f2 := blk_free (i := 2) RZ.out
      have f3 := blk_free (i := 3) RZ.out
      have f4 := blk_free (i := 4) RZ.out
      refine wpSeqP_one (by kernel_rfl) (by kernel_rfl) (fun K hK => ?_)
      go_simp
      clear z0 z1 z2 z3 z4 f0 f1 f2 f3 f4
      refine hK _ _ (set5_upd (B := w.heap.size) sz (.inl (by simp))) ?_
      clear hK K
      try simp only [Act.put, List.setIfInBounds_toArray, List.set_cons_succ, List.set_cons_zero]
      refine wpSeqP_take (by kernel_rfl) (by kernel_rfl) ?_
      apply Exists.intro
      refine ⟨fun wx hS => ?_, fun a' ha => ?_⟩
      · go_simp; rfl
      simp only [Act.put, List.setIfInBounds_toArray, List.set_cons_succ, List.set_cons_zero] at ha
      subst ha
      unfold wpSeqP
      go_wp2_with fail
      rw [HOK.out]
      exact rd_ends rfl rfl rfl rfl (set5_blk RZ.out) (OZ.out.upd (set5_upd (Upd.refl [w.heap.size] _) (.inl (by simp))) fun a h1 h2 => fun hm => VX.out a h1 h2 (by simp at hm ⊢; exact .inr hm)) (set5_upd UZ.out (.inr (Nat.le_refl _)))
end Go.Proofs.YtekbhfpdakhhkaaGreatDoor.St
