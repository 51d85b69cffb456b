/- frame.All: all frames of bytes. -/
import Derived.Test.YtekbhfpdakhhkaaDoorFrE
import Derived.WalkMore
namespace Go.Proofs.YtekbhfpdakhhkaaDoor.Fr
set_option maxRecDepth 100000
open Go.RowKit Go.Proofs.YtekbhfpdakhhkaaDoor.Var Go.Proofs.YtekbhfpdakhhkaaDoor.Crc
attribute [local go_sem] Oper.semAt_some
theorem infoR : (Tryd.prog.info? 36).map (fun i => (i.zero, i.size, i.bytes)) = some (some (.slice none 0 0), 1, 24) := by kernel_rfl

/-- A slice of slices of bytes, as it reads. -/
def ReadsRows (w : World) (v : Value) (ls : List (List UInt8)) : Prop := ∃ ao cap, v = .slice ao ls.length cap ∧ ls.length ≤ cap ∧ cap ≤ maxLen ∧ ∀ (i : Nat) (l : List UInt8), ls[i]? = some l → ∃ (b off : Nat) (xo : Option Addr) (n c : Nat), ao = some ⟨b, off, none⟩ ∧ w.cell? ⟨b, off + i, none⟩ = some (.slice xo n c) ∧ SrcAt w xo n c (l.map u8v) 1 ∧ n ≤ c ∧ c ≤ maxLen
theorem ReadsRows.upd {w w' : World} {v : Value} {ls : List (List UInt8)} (h : ReadsRows w v ls) (hu : Upd [] w w') : ReadsRows w' v ls := by
  obtain ⟨ao, cap, rfl, h1, h2, h3⟩ := h
  refine ⟨ao, cap, rfl, h1, h2, fun i l hi => ?_⟩
  obtain ⟨b, off, xo, n, c, e, hc, hs, hn⟩ := h3 i l hi
  refine ⟨b, off, xo, n, c, e, ?_, src_upd_nil hs hu, hn⟩
  rw [← hc]
  have := hu.block b (World.block_lt_of_cell? w ⟨b, off + i, none⟩ hc) (by simp)
  simp only [World.cell?, this]
/-- The same, where the rows are the call's own: blocks from base on. -/
structure OwnRows (w : World) (base : Nat) (v : Value) (ls : List (List UInt8)) (vs : List Value) : Prop where
  row : w.ownsRow base 36 1 v ls.length vs
  cell : ∀ (i : Nat) (l : List UInt8), ls[i]? = some l → ∃ (xo : Option Addr) (n c : Nat), vs[i]? = some (Value.slice xo n c) ∧ SrcAt w xo n c (l.map u8v) 1 ∧ n ≤ c ∧ c ≤ maxLen ∧ (∀ a, xo = some a → n ≠ 0 → base ≤ a.block ∧ v.ownBlock ≠ some a.block)
theorem OwnRows.reads {w : World} {base : Nat} {v : Value} {ls : List (List UInt8)} {vs : List Value} (h : OwnRows w base v ls vs) : ReadsRows w v ls := by
  obtain ⟨ao, cap, rfl, h1, h2, h3⟩ := owns_slice h.row
  refine ⟨ao, cap, rfl, h1, h2, fun i l hi => ?_⟩
  obtain ⟨xo, n, c, hv, hs, hn, hc, -⟩ := h.cell i l hi
  obtain ⟨g, rfl, -, -, hcell⟩ := h3 i _ hv
  exact ⟨g, 0, xo, n, c, rfl, by rw [Nat.zero_add]; exact hcell, hs, hn, hc⟩
theorem OwnRows.mono {w : World} {b0 base : Nat} {v : Value} {ls : List (List UInt8)} {vs : List Value} (h : OwnRows w base v ls vs) (hb : b0 ≤ base) : OwnRows w b0 v ls vs := by
  refine ⟨⟨h.row.1, ?_⟩, fun i l hi => ?_⟩
  · rcases h.row.2 with h1 | ⟨g, cap, cur, h1, h2, h3⟩
    · exact .inl h1
    · exact .inr ⟨g, cap, cur, h1, Nat.le_trans hb h2, h3⟩
  · obtain ⟨xo, n, c, h1, h2, h3, h4, h5⟩ := h.cell i l hi
    exact ⟨xo, n, c, h1, h2, h3, h4, fun a e h0 => ⟨Nat.le_trans hb (h5 a e h0).1, (h5 a e h0).2⟩⟩
theorem OwnRows.upd {S : List Nat} {w w' : World} {base : Nat} {v : Value} {ls : List (List UInt8)} {vs : List Value} (h : OwnRows w base v ls vs) (hu : Upd S w w') (hS : ∀ k, k ∈ S → k < base) : OwnRows w' base v ls vs := by
  refine ⟨owns_upd h.row hu (fun k hk hm => ?_), fun i l hi => ?_⟩
  · have := (owns_lt h.row k hk).1
    have := hS k hm
    omega
  · obtain ⟨xo, n, c, h1, h2, h3, h4, h5⟩ := h.cell i l hi
    exact ⟨xo, n, c, h1, src_upd h2 hu (fun a e h0 hm => by have := (h5 a e h0).1; have := hS _ hm; omega), h3, h4, h5⟩

/-- A row more. -/
theorem OwnRows.snoc {w3 w4 w6 : World} {B : Nat} {v0 v4 v6 : Value} {ls : List (List UInt8)} {vs : List Value} {ins : List UInt8} {o : Obj} (h : OwnRows w3 B v0 ls vs) (hB : B ≤ w3.heap.size) (u4 : Upd [] w3 w4)
    (o4 : w4.ownsRow w3.heap.size 5 1 v4 ins.length (ins.map u8v)) (u6 : Upd v0.ownBlock.toList (w4.alloc o) w6) (o6 : w6.ownsRow B 36 1 v6 (ls.length + 1) (vs ++ [v4]))
    (n6 : ∀ g, v6.ownBlock = some g → v0.ownBlock = some g ∨ w4.heap.size + 1 ≤ g) : OwnRows w6 B v6 (ls ++ [ins]) (vs ++ [v4]) := by
  have hvl : vs.length = ls.length := by have := h.row.1; simpa using this
  refine ⟨by simpa using o6, fun i l hi => ?_⟩
  rw [List.getElem?_append] at hi
  split at hi
  · rename_i hlt
    obtain ⟨xo, n, c, h1, h2, h3, h4, h5⟩ := h.cell i l hi
    refine ⟨xo, n, c, by rw [List.getElem?_append_left (by omega)]; exact h1, ?_, h3, h4, fun a e h0 => ⟨(h5 a e h0).1, fun h6 => ?_⟩⟩
    · refine src_upd (src_upd_nil h2 (u4.alloc o)) u6 (fun a e h0 hm => ?_)
      simp only [Option.mem_toList] at hm
      exact (h5 a e h0).2 hm
    · rcases n6 _ h6 with h7 | h7
      · exact (h5 a e h0).2 h7
      · subst e
        have hlen := h2.len
        simp only [List.length_map, Nat.mul_one] at hlen
        obtain ⟨b, off, e2, hc⟩ := src_at (j := 0) h2 (by omega)
        cases e2
        have h8 := World.block_lt_of_cell? w3 ⟨b, off + 0, none⟩ hc
        have h9 : w3.heap.size ≤ w4.heap.size := u4.size
        have h10 : w4.heap.size + 1 ≤ b := h7
        have h11 : b < w3.heap.size := h8
        omega
  · rename_i hge
    obtain ⟨hi0, rfl⟩ : i - ls.length = 0 ∧ l = ins := by
      rcases hq : i - ls.length with _ | j
      · rw [hq] at hi; simp at hi; exact ⟨rfl, hi.symm⟩
      · rw [hq] at hi; simp at hi
    have hil : i = ls.length := by omega
    have o4' := o4
    obtain ⟨ao4, cap4, rfl, h1, h2, -⟩ := owns_slice o4
    have hlt4 := owns_lt o4
    refine ⟨ao4, l.length, cap4, by rw [List.getElem?_append_right (by omega), hil, hvl]; simp, ?_, h1, h2, fun a e _ => ⟨?_, fun h6 => ?_⟩⟩
    · refine src_upd ((src_own o4' (by simp [u8v, Value.oneCell'])) |> fun h => src_upd_nil h ((Upd.refl [] w4).alloc o)) u6 (fun a e _ hm => ?_)
      simp only [Option.mem_toList] at hm
      have := (owns_lt h.row _ hm).2
      have := (hlt4 a.block (by rw [e]; rfl)).1
      omega
    · have := (hlt4 a.block (by rw [e]; rfl)).1
      omega
    · have h10 := hlt4 a.block (by rw [e]; rfl)
      rcases n6 _ h6 with h7 | h7
      · have := (owns_lt h.row _ h7).2
        omega
      · omega

/-- What is yielded lies in the bytes. -/
theorem each_src {w : World} (n : Nat) : ∀ (bs : List UInt8) (xo : Option Addr) (m c : Nat), bs.length ≤ n → SrcAt w xo m c (bs.map u8v) 1 → m ≤ c → ∀ x ∈ eachL xo c bs, x.2.2 = 0 → SrcAt w x.1 x.2.1.length x.2.1.length (x.2.1.map u8v) 1 := by
  induction n with
  | zero =>
    intro bs xo m c h _ _ x hx
    have : bs = [] := List.length_eq_zero_iff.1 (by omega)
    subst this
    rw [eachL_nil] at hx
    cases hx
  | succ n ih =>
    intro bs xo m c h hs hmc x hx hx0
    have hlen : bs.length = m := by have := hs.len; simpa using this
    by_cases h0 : bs = []
    · subst h0; rw [eachL_nil] at hx; cases hx
    · by_cases he : (take bs).2.2 = 0
      · have hl := take_len he
        obtain ⟨t1, t2, t3, t4, t5⟩ := take_ok (bs := bs) (x := (take bs).1) (n := (take bs).2.1) (by rw [← he])
        rw [fr_len] at t5
        rw [eachL_ok h0 he] at hx
        rcases List.mem_cons.1 hx with rfl | hx
        · have h1 := src_cut (l := (take bs).2.1 - (take bs).1.length) (h := (take bs).2.1) (q := (take bs).2.1) hs (by omega) (by omega) (Nat.le_refl _) (by omega)
          have e1 : (take bs).2.1 - ((take bs).2.1 - (take bs).1.length) = (take bs).1.length := by omega
          rw [e1] at h1
          have e2 : (bs.drop ((take bs).2.1 - (take bs).1.length)).take (take bs).1.length = (take bs).1 := by
            have h2 := congrArg (List.drop ((take bs).2.1 - (take bs).1.length)) t4
            rw [List.drop_take, e1] at h2
            rw [h2]
            have e3 : (take bs).2.1 - (take bs).1.length = (uv (take bs).1.length ++ le4 (Crc.sum (take bs).1)).length := by
              simp only [List.length_append, le4_len]; omega
            rw [e3]
            unfold fr
            rw [List.drop_left]
          rw [e2] at h1
          exact h1
        · have h1 := src_cut (l := (take bs).2.1) (h := m) (q := c) hs (by omega) (Nat.le_refl _) hmc (Nat.le_refl _)
          rw [List.take_of_length_le (by simp; omega)] at h1
          exact ih _ _ _ _ (by simp; omega) h1 (by omega) x hx hx0
      · rw [eachL_err h0 he] at hx
        simp only [List.mem_singleton] at hx
        subst hx
        exact absurd hx0 he

/-- How many bytes frames with these insides have. -/
def fsum : List Fy → Nat
  | [] => 0
  | x :: r => (fr x.2.1).length + fsum r
theorem fsum_append (a b : List Fy) : fsum (a ++ b) = fsum a + fsum b := by
  induction a with
  | nil => simp [fsum]
  | cons x a ih => simp only [List.cons_append, fsum, ih]; omega
theorem all_each (n : Nat) : ∀ (bs : List UInt8) (xo : Option Addr) (c : Nat), bs.length ≤ n →
    (∀ pre last, pre ++ [last] <+: eachL xo c bs → last.2.2 ≠ 0 → all bs = (pre.map (·.2.1), fsum pre, last.2.2)) ∧
    ((∀ x ∈ eachL xo c bs, x.2.2 = 0) → all bs = ((eachL xo c bs).map (·.2.1), fsum (eachL xo c bs), 0)) ∧
    (∀ pre, pre <+: eachL xo c bs → (∀ x ∈ pre, x.2.2 = 0) → fsum pre ≤ bs.length ∧ pre.length ≤ bs.length ∧ ∀ x ∈ pre, x.2.1.length ≤ 65536) := by
  induction n with
  | zero =>
    intro bs xo c h
    have : bs = [] := List.length_eq_zero_iff.1 (by omega)
    subst this
    rw [eachL_nil]
    refine ⟨fun pre last h => by simp at h, fun _ => rfl, fun pre h _ => ?_⟩
    obtain rfl := List.prefix_nil.1 h
    simp [fsum]
  | succ n ih =>
    intro bs xo c h
    by_cases h0 : bs = []
    · subst h0
      rw [eachL_nil]
      refine ⟨fun pre last h => by simp at h, fun _ => rfl, fun pre h _ => ?_⟩
      obtain rfl := List.prefix_nil.1 h
      simp [fsum]
    · by_cases he : (take bs).2.2 = 0
      · have hl := take_len he
        obtain ⟨t1, t2, t3, t4, t5⟩ := take_ok (bs := bs) (x := (take bs).1) (n := (take bs).2.1) (by rw [← he])
        obtain ⟨i1, i2, i3⟩ := ih (bs.drop (take bs).2.1) (cutAt xo (take bs).2.1 c) (c - (take bs).2.1) (by simp; omega)
        rw [eachL_ok h0 he, all_ok h0 he]
        refine ⟨fun pre last hp hle => ?_, fun hall => ?_, fun pre hp hall => ?_⟩
        · cases pre with
          | nil =>
            simp only [List.nil_append, List.cons_prefix_cons] at hp
            rw [hp.1] at hle
            exact absurd rfl hle
          | cons y pre =>
            simp only [List.cons_append, List.cons_prefix_cons] at hp
            obtain ⟨rfl, hp⟩ := hp
            rw [i1 pre last hp hle]
            simp only [List.map_cons, fsum, t5]
        · rw [i2 (fun x hx => hall x (List.mem_cons_of_mem _ hx))]
          simp only [List.map_cons, fsum, t5]
        · cases pre with
          | nil => simp [fsum]
          | cons y pre =>
            simp only [List.cons_prefix_cons] at hp
            obtain ⟨rfl, hp⟩ := hp
            obtain ⟨j1, j2, j3⟩ := i3 pre hp (fun x hx => hall x (List.mem_cons_of_mem _ hx))
            simp only [List.length_drop] at j1 j2
            refine ⟨by simp only [fsum]; omega, by simp only [List.length_cons]; omega, fun x hx => ?_⟩
            rcases List.mem_cons.1 hx with rfl | hx
            · exact t3
            · exact j3 x hx
      · rw [eachL_err h0 he, all_err h0 he]
        refine ⟨fun pre last hp hle => ?_, fun hall => ?_, fun pre hp hall => ?_⟩
        · have hpl := hp.length_le
          simp at hpl
          subst hpl
          simp only [List.nil_append, List.cons_prefix_cons] at hp
          rw [hp.1]
          rfl
        · exact absurd (hall (none, [], (take bs).2.2) (by simp)) he
        · cases pre with
          | nil => simp [fsum]
          | cons y pre =>
            simp only [List.cons_prefix_cons] at hp
            have := hall y (by simp)
            rw [hp.1] at this
            exact absurd this he

/-- No error among these. -/
def NoErr (l : List Fy) : Prop := ∀ x ∈ l, x.2.2 = 0
/-- What lies in All's boxes behind frames that were told. -/
structure Told (w W : World) (B : Nat) (pre : List Fy) (e : Int) : Prop where
  upd : Upd [] w W
  out : ∃ ao cap vs, W.heap[w.heap.size]? = some (.cells #[.slice ao pre.length cap] 66 (0, 0)) ∧ OwnRows W B (.slice ao pre.length cap) (pre.map (·.2.1)) vs
  sum : W.heap[w.heap.size + 1]? = some (.cells #[.int .i64 (fsum pre : Nat)] 3 (0, 0))
  bad : W.heap[w.heap.size + 2]? = some (.cells #[.int .i64 e] 30 (0, 0))
theorem Told.step {w W W' : World} {B : Nat} {pre : List Fy} {e : Int} {S : List Nat} (h : Told w W B pre e) (hu : Upd S W W') (hS : ∀ k, k ∈ S → w.heap.size + 3 ≤ k ∧ k < B) : Told w W' B pre e := by
  obtain ⟨ao, cap, vs, h1, h2⟩ := h.out
  exact ⟨h.upd.trans_new hu (fun k hk => .inr (by have := hS k hk; omega)), ⟨ao, cap, vs, hu.get h1 (fun hk => by have := hS _ hk; omega), h2.upd hu (fun k hk => (hS k hk).2)⟩,
    hu.get h.sum (fun hk => by have := hS _ hk; omega), hu.get h.bad (fun hk => by have := hS _ hk; omega)⟩

/-- An error has ended the range. -/
def Broke (w W : World) (B : Nat) (pre : List Fy) : Prop := ∃ init last, pre = init ++ [last] ∧ NoErr init ∧ last.2.2 ≠ 0 ∧ Told w W B init last.2.2
set_option maxRecDepth 100000 in
set_option maxHeartbeats 4000000 in
theorem all_any {xo : Option Addr} {m c : Nat} {bs : List UInt8} (w : World) (hst : TabAt w) (hs : SrcAt w xo m c (bs.map u8v) 1) (hmc : m ≤ c) (hc : c ≤ maxLen) (hm : m ≤ 1000000000000) :
    Calls Tryd.prog 41 #[.slice xo m c] w fun e w' => ∃ v vs, e = .returned (.tuple #[v, .int .i64 ((all bs).2.1 : Nat), .int .i64 (all bs).2.2]) ∧ OwnRows w' w.heap.size v (all bs).1 vs ∧ Upd [] w w' := by
  have HST := hide hst; have HS := hide hs
  have hlt : ∀ a, xo = some a → m ≠ 0 → a.block < w.heap.size := fun a e h0 => by
    obtain ⟨b, off, e2, h2⟩ := src_at (j := 0) hs (by omega)
    rw [e] at e2
    cases e2
    exact World.block_lt_of_cell? w ⟨b, off + 0, none⟩ h2
  have HLT := hide hlt
  clear hst hs hlt
  refine calls_of_wp_marks Tryd.func41 rfl ?_
  simp only [Tryd.ntmps41, List.size_toArray, List.length_cons, List.length_nil, Nat.reduceAdd, Nat.reduceSub, Array.replicate_succ, Array.replicate_zero, List.push_toArray, List.append_toArray, List.nil_append, List.cons_append]
  go_wp2_with fail
  go_step3
  go_wp2_with fail
  go_step3
  go_wp2_with fail
  refine (each_any _).mono ?_
  rintro e w1 ⟨rfl, hp1, hu1⟩
  have hb0 := hu1.get (blk_alloc (blk_alloc (blk_new w (.cells #[.slice none 0 0] 66)) (.cells #[.int .i64 0] 3)) (.cells #[.int .i64 0] 30)) (by simp)
  have hb1 := hu1.get (blk_alloc (blk_new (w.alloc (.cells #[.slice none 0 0] 66)) (.cells #[.int .i64 0] 3)) (.cells #[.int .i64 0] 30)) (by simp)
  have hb2 := hu1.get (blk_new ((w.alloc (.cells #[.slice none 0 0] 66)).alloc (.cells #[.int .i64 0] 3)) (.cells #[.int .i64 0] 30)) (by simp)
  have hu1' := ((((Upd.refl [] w).alloc (.cells #[.slice none 0 0] 66)).alloc (.cells #[.int .i64 0] 3)).alloc (.cells #[.int .i64 0] 30)).trans hu1
  simp only [World.size_alloc, Nat.add_assoc, Nat.reduceAdd] at hp1 hb0 hb1 hb2
  have hs1 := blk_lt hp1
  have U1 := hide hu1'; have P1 := hide hp1; have B0 := hide hb0; have B1 := hide hb1; have B2 := hide hb2
  clear hu1 hu1' hp1 hb0 hb1 hb2
  go_wp2_with fail
  have hlen : bs.length = m := by have := HS.out.len; simpa using this
  obtain ⟨a1, a2, a3⟩ := all_each bs.length bs xo c (Nat.le_refl _)
  have A1 := hide a1; have A2 := hide a2; have A3 := hide a3; have HL := hide hlen
  clear a1 a2 a3 hlen
  have hbk : ∀ k, k ∈ blkM m xo → k < w.heap.size := fun k hk => by
    unfold blkM at hk
    split at hk
    · cases hk
    · rename_i h0
      simp only [blkOf, List.mem_map, Option.mem_toList] at hk
      obtain ⟨a, ha, rfl⟩ := hk
      exact HLT.out a ha h0
  refine wp_range (gf := 81) rfl (enters_of Tryd.func81 (by kernel_rfl) rfl) (each_iter (p := w.heap.size + 3) (m := m) (c := c) (xo := xo) (bs := bs) hmc hc (by have := HST.out.lt; omega) (fun a e h0 => by have := HLT.out a e h0; omega)) (fun _ => rfl) ?hK (by simp; omega)
    (fun W hu => ⟨hu.get P1.out (by simp), src_upd_nil HS.out (U1.out.trans hu), HST.out.upd (U1.out.trans hu) (by simp)⟩)
    (fun pre W => NoErr pre ∧ Told w W (w1.heap.size + 2) pre 0)
    (fun cd pre W => cd = .exit 0 ∧ Broke w W (w1.heap.size + 2) pre) ?hI ?hIx ?h0 ?hround ?hdone ?hstop
  case hK =>
    intro k hk
    simp only [List.mem_cons] at hk
    rcases hk with rfl | rfl | hk
    · exact hs1
    · have := HST.out.lt; omega
    · have := hbk k hk; omega
  case hI =>
    rintro pre W1 W2 ⟨h1, h2⟩ hu
    exact ⟨h1, h2.step hu (by simp; omega)⟩
  case hIx =>
    rintro cd pre W1 W2 ⟨h1, h2⟩ hu
    obtain ⟨init, last, h2, h3, h4, h5⟩ := h2
    exact ⟨h1, init, last, h2, h3, h4, h5.step hu (by simp; omega)⟩
  case h0 =>
    intro W hu hsz
    refine ⟨fun x hx => by simp at hx, ⟨U1.out.trans hu, ⟨none, 0, [], hu.get B0.out (by simp), ⟨⟨rfl, .inl ⟨rfl, rfl⟩⟩, fun i l h => by simp at h⟩⟩, hu.get B1.out (by simp), hu.get B2.out (by simp)⟩⟩
  case hdone =>
    rintro W ⟨h1, hT⟩ hd
    obtain ⟨ao, cap, vs, hb0, hor⟩ := hT.out
    have hc0 := blk_cell (i := 0) hb0 rfl
    have hc1 := blk_cell (i := 0) hT.sum rfl
    have hc2 := blk_cell (i := 0) hT.bad rfl
    simp only [List.getElem_toArray, List.getElem_cons_zero] at hc0 hc1 hc2
    have T := hide hT; have H1 := hide h1; have OR := hide hor; have HD := hide hd
    clear hT h1 hor hb0 hd
    go_wp2_with fail
    go_quiet (fail)
    go_wp2_with fail
    rw [Exit.noGoto_ret]
    have hal := A2.out H1.out
    have hup : Upd [w1.heap.size] W ((W.drewN nq).putObj w1.heap.size (.deferred none)) := ((Upd.refl _ W).drewN nq).putObj (.inl (by simp)) _
    refine leaves_one (by exact HD.out) (by simp [results, Tryd.results41, go_sem]; rfl) ⟨_, vs, by rw [hal], ?_, T.out.upd.trans_new hup (by simp; omega)⟩
    rw [hal]
    have := OR.out.upd hup (by simp)
    exact this.mono (by omega)
  case hstop =>
    rintro cd pre W hpre ⟨rfl, hB⟩ hd
    obtain ⟨init, last, rfl, h1, h2, hT⟩ := hB
    obtain ⟨ao, cap, vs, hb0, hor⟩ := hT.out
    have hal := A1.out init last hpre h2
    have hc0 := blk_cell (i := 0) hb0 rfl
    have hc1 := blk_cell (i := 0) hT.sum rfl
    have hc2 := blk_cell (i := 0) hT.bad rfl
    simp only [List.getElem_toArray, List.getElem_cons_zero] at hc0 hc1 hc2
    have T := hide hT; have H1 := hide h1; have OR := hide hor; have HD := hide hd; have AL := hide hal
    clear hT h1 hor hb0 hd hpre h2 hal
    go_wp2_with fail
    go_quiet (fail)
    go_wp2_with fail
    rw [Exit.noGoto_ret]
    have hup : Upd [w1.heap.size] W ((W.drewN nq).putObj w1.heap.size (.deferred none)) := ((Upd.refl _ W).drewN nq).putObj (.inl (by simp)) _
    refine leaves_one (by exact HD.out) (by simp [results, Tryd.results41, go_sem]; rfl) ⟨_, vs, by rw [AL.out], ?_, T.out.upd.trans_new hup (by simp; omega)⟩
    rw [AL.out]
    have := OR.out.upd hup (by simp)
    exact this.mono (by omega)
  case hround =>
    rintro pre ⟨yo, ins, er⟩ W hpre hi hsz
    have HPRE := hide hpre
    clear hpre
    gi_wp2
    refine ⟨Keeps.refl _ _, fun W2 hu hi2 => ?_⟩
    obtain ⟨hok, hT⟩ := hi2 hi
    have hsz2 : w1.heap.size + 2 ≤ W2.heap.size := Nat.le_trans hsz hu.size
    clear hi hi2 hu hsz
    have hpe : pre ++ [(yo, ins, er)] <+: eachL xo c bs := HPRE.out
    by_cases her : er = 0
    · subst her
      have hall : NoErr (pre ++ [(yo, ins, (0 : Int))]) := fun x hx => by
        rcases List.mem_append.1 hx with h | h
        · exact hok x h
        · simp at h; rw [h]
      obtain ⟨b1, b2, b3⟩ := A3.out _ HPRE.out hall
      have hil := b3 (yo, ins, 0) (by simp)
      rw [fsum_append] at b1
      rw [HL.out] at b1 b2
      simp only [fsum, List.length_append, List.length_cons, List.length_nil, fr_len] at b1 b2 hil
      have hsum := hT.sum
      have hc1 := blk_cell (i := 0) hsum rfl
      have hf1 := blk_free (i := 0) hsum
      simp only [List.getElem_toArray, List.getElem_cons_zero] at hc1
      have T := hide hT; have HOK := hide hok; have HALL := hide hall
      clear hT hok hall hsum b3
      gi_wp2_with fail
      have hwn : IntKind.u64.wrap (ins.length : Int) = (ins.length : Int) := by rw [IntKind.wrap_u64]; omega
      have hw1 : IntKind.i64.wrap (((uv ins.length).length : Int) + 4) = ((uv ins.length).length : Int) + 4 := IntWalk.i64_in _ (by omega)
      have hw2 : IntKind.i64.wrap (((uv ins.length).length : Int) + 4 + ins.length) = ((uv ins.length).length : Int) + 4 + ins.length := IntWalk.i64_in _ (by omega)
      have hw3 : IntKind.i64.wrap ((fsum pre : Int) + (((uv ins.length).length : Int) + 4 + ins.length)) = (fsum pre : Int) + (((uv ins.length).length : Int) + 4 + ins.length) := IntWalk.i64_in _ (by omega)
      refine wpIn_region_z (fun w' => w'.cell? ⟨w.heap.size + 1, 0, none⟩ = some (.int .i64 (fsum pre : Nat))) 11 (by kernel_rfl) (by kernel_rfl) ?hq9 ?_
      case hq9 => exact fun ⟨_, _, h⟩ => h
      refine wpAnyZ_takeE 0 rfl (by kernel_rfl) (by kernel_rfl) (by kernel_rfl) (by kernel_rfl) (fun _ _ _ _ h => h) rfl (by exact hc1) ?_
      apply Exists.intro
      refine ⟨fun wx hS => ?_, ?_⟩
      · have s0 := hS; go_simp; rfl
      simp only [Act.put, List.setIfInBounds_toArray, List.set_cons_succ, List.set_cons_zero, List.getElem_toArray, List.getElem_cons_zero]
      refine wpAnyZ_takeE 1 rfl (by kernel_rfl) (by kernel_rfl) (by kernel_rfl) (by kernel_rfl) (fun _ _ _ _ h => h) rfl (by exact hc1) ?_
      apply Exists.intro
      refine ⟨fun wx hS => ?_, ?_⟩
      · have s0 := hS; go_simp; rfl
      simp only [Act.put, List.setIfInBounds_toArray, List.set_cons_succ, List.set_cons_zero, List.getElem_toArray, List.getElem_cons_succ, List.getElem_cons_zero]
      refine wpAnyZ_takeE 2 rfl (by kernel_rfl) (by kernel_rfl) (by kernel_rfl) (by kernel_rfl) (fun _ _ _ _ h => h) rfl (by exact hc1) ?_
      apply Exists.intro
      refine ⟨fun wx hS => ?_, ?_⟩
      · have s0 := hS; go_simp; rfl
      simp only [Act.put, List.setIfInBounds_toArray, List.set_cons_succ, List.set_cons_zero, List.getElem_toArray, List.getElem_cons_succ, List.getElem_cons_zero]
      refine wpAnyZ_takeE 3 rfl (by kernel_rfl) (by kernel_rfl) (by kernel_rfl) (by kernel_rfl) (fun _ _ _ _ h => h) rfl (by exact hc1) ?_
      apply Exists.intro
      refine ⟨fun wx hS => ?_, ?_⟩
      · have s0 := hS; go_simp; rfl
      simp only [Act.put, List.setIfInBounds_toArray, List.set_cons_succ, List.set_cons_zero, List.getElem_toArray, List.getElem_cons_succ, List.getElem_cons_zero]
      refine wpAnyZ_takeE 7 rfl (by kernel_rfl) (by kernel_rfl) (by kernel_rfl) (by kernel_rfl) (fun _ _ _ _ h => h) rfl (by exact hc1) ?_
      apply Exists.intro
      refine ⟨fun wx hS => ?_, ?_⟩
      · have s0 := hS; go_simp; rfl
      simp only [Act.put, List.setIfInBounds_toArray, List.set_cons_succ, List.set_cons_zero, List.getElem_toArray, List.getElem_cons_succ, List.getElem_cons_zero]
      refine wpAnyZ_takeE 8 rfl (by kernel_rfl) (by kernel_rfl) (by kernel_rfl) (by kernel_rfl) (fun _ _ _ _ h => h) rfl (by exact hc1) ?_
      apply Exists.intro
      refine ⟨fun wx hS => ?_, ?_⟩
      · have s0 := hS; go_simp; rfl
      simp only [Act.put, List.setIfInBounds_toArray, List.set_cons_succ, List.set_cons_zero, List.getElem_toArray, List.getElem_cons_succ, List.getElem_cons_zero]
      refine wpAnyZ_one 4 (by kernel_rfl) rfl rfl (fun K hK => ?_)
      try simp only [List.getElem_toArray, List.getElem_cons_succ, List.getElem_cons_zero]
      go_simp
      refine (uint_nil _ (by omega)).mono ?_
      rintro e w3 ⟨v, ao, cap, rfl, rfl, -, hu3⟩
      have T3 := hide (T.out.step ((Upd.refl [] W2).drewN 1 |>.trans hu3) (by simp))
      have U3 := hide ((Upd.refl [] W2).drewN 1 |>.trans hu3)
      have hc3 := blk_cell (i := 0) T3.out.sum rfl
      have hf3 := blk_free (i := 0) T3.out.sum
      simp only [List.getElem_toArray, List.getElem_cons_zero] at hc3
      clear hc1 hf1 hu3
      refine hK _ _ (.inr hc3) ?_
      clear hK K
      try simp only [Act.put, List.setIfInBounds_toArray, List.set_cons_succ, List.set_cons_zero]
      refine wpAnyZ_takeE 5 rfl (by kernel_rfl) (by kernel_rfl) (by kernel_rfl) (by kernel_rfl) (fun _ _ _ _ h => h) rfl (by exact hc3) ?_
      apply Exists.intro
      refine ⟨fun wx hS => ?_, ?_⟩
      · have s0 := hS; go_simp; rfl
      simp only [Act.put, List.setIfInBounds_toArray, List.set_cons_succ, List.set_cons_zero, List.getElem_toArray, List.getElem_cons_succ, List.getElem_cons_zero]
      refine wpAnyZ_takeE 6 rfl (by kernel_rfl) (by kernel_rfl) (by kernel_rfl) (by kernel_rfl) (fun _ _ _ _ h => h) rfl (by exact hc3) ?_
      apply Exists.intro
      refine ⟨fun wx hS => ?_, ?_⟩
      · have s0 := hS; go_simp; rfl
      simp only [Act.put, List.setIfInBounds_toArray, List.set_cons_succ, List.set_cons_zero, List.getElem_toArray, List.getElem_cons_succ, List.getElem_cons_zero]
      refine wpAnyZ_takeE 9 rfl (by kernel_rfl) (by kernel_rfl) (by kernel_rfl) (by kernel_rfl) (fun _ _ _ _ h => h) rfl (by exact hc3) ?_
      apply Exists.intro
      refine ⟨fun wx hS => ?_, ?_⟩
      · have s0 := hS; go_simp; rfl
      simp only [Act.put, List.setIfInBounds_toArray, List.set_cons_succ, List.set_cons_zero, List.getElem_toArray, List.getElem_cons_succ, List.getElem_cons_zero]
      refine wpAnyZ_takeE 10 rfl (by kernel_rfl) (by kernel_rfl) (by kernel_rfl) (by kernel_rfl) (fun _ _ _ _ h => h) rfl (by exact hc3) ?_
      apply Exists.intro
      refine ⟨fun wx hS => ?_, ?_⟩
      · have s0 := hS; go_simp; rfl
      simp only [Act.put, List.setIfInBounds_toArray, List.set_cons_succ, List.set_cons_zero, List.getElem_toArray, List.getElem_cons_succ, List.getElem_cons_zero]
      refine wpAnyZ_one 11 (by kernel_rfl) rfl rfl (fun K hK => ?_)
      try simp only [List.getElem_toArray, List.getElem_cons_succ, List.getElem_cons_zero]
      go_simp
      refine hK _ _ (.inl rfl) ?_
      clear hK K
      refine wpAnyZ_done (by kernel_rfl) ?_ _
      clear hwn hw1 hw2 hw3 hc3 hf3
      gi_wp2_with fail
      obtain ⟨ao0, cap0, vs, hb0, hor⟩ := T3.out.out
      have hb1' := blk_set (i := 0) T3.out.sum (.int .i64 ((fsum pre : Int) + (((uv ins.length).length : Int) + 4 + ins.length)))
      have hU4 : Upd [w.heap.size + 1] w3 (w3.setCell ⟨w.heap.size + 1, 0, none⟩ (.int .i64 ((fsum pre : Int) + (((uv ins.length).length : Int) + 4 + ins.length)))) := (Upd.refl _ _).setCell (.inl (by simp)) _
      simp only [List.setIfInBounds_toArray, List.set_cons_zero] at hb1'
      obtain ⟨W4, hW4⟩ : ∃ W4, w3.setCell ⟨w.heap.size + 1, 0, none⟩ (.int .i64 ((fsum pre : Int) + (((uv ins.length).length : Int) + 4 + ins.length))) = W4 := ⟨_, rfl⟩
      rw [hW4] at hb1' hU4 ⊢
      have hb0' := hU4.get hb0 (by simp)
      have hb2' := hU4.get T3.out.bad (by simp)
      have hor' := hor.upd hU4 (by simp; omega)
      have hu4 : Upd [] w W4 := T3.out.upd.trans_new hU4 (by simp)
      have hwz : w1.heap.size + 2 ≤ W4.heap.size := Nat.le_trans hsz2 (Nat.le_trans U3.out.size hU4.size)
      have hc0 := blk_cell (i := 0) hb0' rfl
      have hf0 := blk_free (i := 0) hb0'
      simp only [List.getElem_toArray, List.getElem_cons_zero] at hc0
      have hsrc := src_upd_nil (each_src bs.length bs xo m c (Nat.le_refl _) HS.out hmc (yo, ins, 0) (HPRE.out.subset (by simp)) rfl) (hu4.drewN 1)
      have OR := hide (hor'.upd ((Upd.refl [] W4).drewN 1) (by simp)); have B0' := hide hb0'; have B1' := hide hb1'; have B2' := hide hb2'; have U4 := hide hu4; have SR := hide hsrc
      have UU := hide ((U3.out.mono (T := [w.heap.size + 1]) (by simp)).trans hU4)
      clear hb0 hor hb1' hU4 hW4 hb0' hb2' hor' hu4 hsrc T3 U3
      obtain ⟨i0, hi, hz0, hz1, hz2⟩ := info_parts infoB
      obtain ⟨i1, hi1, hy0, hy1, hy2⟩ := info_parts infoR
      refine wpIn_region_z (fun w' => w'.cell? ⟨w.heap.size, 0, none⟩ = some (.slice ao0 pre.length cap0)) 5 (by kernel_rfl) (by kernel_rfl) ?hq8 ?_
      case hq8 => exact fun ⟨_, _, h⟩ => h
      refine wpAnyZ_takeE 0 rfl (by kernel_rfl) (by kernel_rfl) (by kernel_rfl) (by kernel_rfl) (fun _ _ _ _ h => h) rfl (by exact hc0) ?_
      apply Exists.intro
      refine ⟨fun wx hS => ?_, ?_⟩
      · have s0 := hS; go_simp; rfl
      simp only [Act.put, List.setIfInBounds_toArray, List.set_cons_succ, List.set_cons_zero, List.getElem_toArray, List.getElem_cons_zero]
      refine wpAnyZ_takeE 1 rfl (by kernel_rfl) (by kernel_rfl) (by kernel_rfl) (by kernel_rfl) (fun _ _ _ _ h => h) rfl (by exact hc0) ?_
      apply Exists.intro
      refine ⟨fun wx hS => ?_, ?_⟩
      · have s0 := hS; go_simp; rfl
      simp only [Act.put, List.setIfInBounds_toArray, List.set_cons_succ, List.set_cons_zero, List.getElem_toArray, List.getElem_cons_succ, List.getElem_cons_zero]
      refine wpAnyZ_one 2 (by kernel_rfl) rfl rfl (fun K hK => ?_)
      try simp only [List.getElem_toArray, List.getElem_cons_succ, List.getElem_cons_zero]
      refine wp_append_src _ _ _ 36 rfl W4.heap.size 5 i0 (.int .u8 0) 1 1 Tryd.underlying36 hi hz0 hz1 hz2 rfl (by decide) (.slice none 0 0) 0 [] rfl ⟨rfl, .inl ⟨rfl, rfl⟩⟩ yo ins.length ins.length (ins.map u8v) rfl SR.out (by unfold maxLen; omega) (by omega) (Nat.le_refl _) ?_
      intro ao4 cap4 w4 hown4 hU4 hn4
      have hU4' : Upd [] (W4.drewN 1) w4 := hU4
      simp only [Nat.zero_add, List.nil_append] at hown4 hn4
      have hc4 := blk_cell (i := 0) (hU4'.get (b := w.heap.size) B0'.out (by simp)) rfl
      have hf4 := blk_free (i := 0) (hU4'.get (b := w.heap.size) B0'.out (by simp))
      simp only [List.getElem_toArray, List.getElem_cons_zero] at hc4
      have BB4 := hide (hU4'.get (b := w.heap.size) B0'.out (by simp))
      have O4 := hide hown4; have UP4 := hide hU4'; have N4 := hide hn4
      clear hown4 hU4 hU4' hn4 hc0 hf0
      refine hK _ _ (.inr hc4) ?_
      clear hK K
      try simp only [Nat.zero_add, Act.put, List.setIfInBounds_toArray, List.set_cons_succ, List.set_cons_zero]
      refine wpAnyZ_one 3 (by kernel_rfl) rfl rfl (fun K hK => ?_)
      try simp only [List.getElem_toArray, List.getElem_cons_succ, List.getElem_cons_zero]
      go_simp
      refine hK _ _ (.inr (blk_cell (i := 0) (blk_alloc BB4.out _) rfl)) ?_
      clear hK K
      try simp only [Act.put, List.setIfInBounds_toArray, List.set_cons_succ, List.set_cons_zero]
      refine wpAnyZ_one 4 (by kernel_rfl) rfl rfl (fun K hK => ?_)
      try simp only [List.getElem_toArray, List.getElem_cons_succ, List.getElem_cons_zero]
      have hz4 : W4.heap.size ≤ w4.heap.size := UP4.out.size
      refine wp_append_src _ _ _ 66 rfl (w1.heap.size + 2) 36 i1 (.slice none 0 0) 1 24 Tryd.underlying66 hi1 hy0 hy1 hy2 rfl (by decide) (.slice ao0 pre.length cap0) pre.length vs rfl ?c1 (some ⟨w4.heap.size, 0, none⟩) 1 1 [.slice ao4 ins.length cap4] rfl (src_one (cell_new1 rfl) rfl) (by unfold maxLen; omega) (by omega) (by simp; omega) ?_
      case c1 =>
        have h1 := (OR.out.upd UP4.out (by simp)).row
        simp only [List.length_map] at h1
        exact h1.alloc _
      intro ao6 cap6 w6 hown6 hU6 hn6
      have hb6 := hU6.get (b := w.heap.size) (blk_alloc (UP4.out.get (b := w.heap.size) B0'.out (by simp)) _) (fun hm => by
        simp only [Option.mem_toList] at hm
        have := (owns_lt OR.out.row _ hm).1
        omega)
      have hc6 := blk_cell (i := 0) hb6 rfl
      have hf6 := blk_free (i := 0) hb6
      simp only [List.getElem_toArray, List.getElem_cons_zero] at hc6
      have O6 := hide hown6; have UP6 := hide hU6; have N6 := hide hn6; have BB6 := hide hb6
      clear hown6 hU6 hn6 hb6 hc4 hf4
      refine hK _ _ (.inr hc6) ?_
      clear hK K
      try simp only [Act.put, List.setIfInBounds_toArray, List.set_cons_succ, List.set_cons_zero]
      refine wpAnyZ_one 5 (by kernel_rfl) rfl rfl (fun K hK => ?_)
      try simp only [List.getElem_toArray, List.getElem_cons_succ, List.getElem_cons_zero]
      go_simp
      refine hK _ _ (.inl rfl) ?_
      clear hK K
      refine wpAnyZ_done (by kernel_rfl) ?_ _
      clear hc6 hf6
      gi_wp2_with fail
      have hown : ∀ k, (Value.slice ao0 pre.length cap0).ownBlock = some k → w1.heap.size + 2 ≤ k := fun k hk => (owns_lt OR.out.row k (by simpa using hk)).1
      have hUa : Upd (w.heap.size :: (w.heap.size + 1) :: (Value.slice ao0 pre.length cap0).ownBlock.toList) W2 (w6.setCell ⟨w.heap.size, 0, none⟩ (.slice ao6 (pre.length + 1) cap6)) :=
        ((((((UU.out.mono (by simp)).drewN 1).trans (UP4.out.mono (by simp))).alloc _).trans (UP6.out.mono (fun k hk => by simp only [Option.mem_toList, List.mem_cons] at hk ⊢; exact .inr (.inr hk))))).setCell (.inl (by simp)) _
      have hor6 := OwnRows.snoc OR.out (by simp; omega) UP4.out O4.out UP6.out (by simpa using O6.out) (fun g hg => by simpa using N6.out g hg)
      have hl1 : ∀ i, i < w1.heap.size → i ∉ (Value.slice ao0 pre.length cap0).ownBlock.toList := fun i hi hm => by
        simp only [Option.mem_toList] at hm
        have := hown _ hm
        omega
      refine ⟨Keeps.of_upd hUa (fun k hk => ?_), HALL.out, ⟨?_, ⟨ao6, cap6, vs ++ [.slice ao4 ins.length cap4], ?_, ?_⟩, ?_, ?_⟩⟩
      · have hg0 := HST.out.lt
        have hk2 : k < w1.heap.size + 2 ∧ k ≠ w.heap.size ∧ k ≠ w.heap.size + 1 := by
          simp only [List.mem_cons] at hk
          rcases hk with rfl | rfl | rfl | rfl | hk
          · omega
          · omega
          · omega
          · exact ⟨by omega, by omega, by omega⟩
          · have := hbk k hk; omega
        refine ⟨fun hm => ?_, by omega⟩
        simp only [List.mem_cons, Option.mem_toList] at hm
        rcases hm with h5 | h5 | h5
        · omega
        · omega
        · have := hown _ h5; omega
      · exact ((((U4.out.drewN 1).trans UP4.out).alloc _).trans_new UP6.out (fun k hk => by
          simp only [Option.mem_toList] at hk
          exact .inr (by have := hown _ hk; omega))).setCell (.inr (Nat.le_refl _)) _
      · have := blk_set (i := 0) BB6.out (.slice ao6 (pre.length + 1) cap6)
        simpa using this
      · have := hor6.upd ((Upd.refl [w.heap.size] w6).setCell (p := ⟨w.heap.size, 0, none⟩) (.inl (by simp)) (.slice ao6 (pre.length + 1) cap6)) (by simp; omega)
        simpa using this
      · have h5 := UP6.out.get (blk_alloc (UP4.out.get (b := w.heap.size + 1) B1'.out (by simp)) _) (hl1 _ (by omega))
        have h6 := blk_set_other (i := 0) h5 (c := w.heap.size) (by omega) (.slice ao6 (pre.length + 1) cap6)
        rw [fsum_append]
        simp only [fsum, fr_len, Nat.add_zero]
        rw [h6]
        simp only [Int.natCast_add]
        rfl
      · exact blk_set_other (i := 0) (UP6.out.get (blk_alloc (UP4.out.get (b := w.heap.size + 2) B2'.out (by simp)) _) (hl1 _ (by omega))) (c := w.heap.size) (by omega) (.slice ao6 (pre.length + 1) cap6)
    · have q1 : (er == 0) = false := by simpa using her
      have hc2 := blk_cell (i := 0) hT.bad rfl
      have hf2 := blk_free (i := 0) hT.bad
      simp only [List.getElem_toArray, List.getElem_cons_zero] at hc2
      have T := hide hT; have HOK := hide hok; have HER := hide her
      clear hT hok her hpe
      gi_wp2_with fail
      have hUa : Upd [w.heap.size + 2] W2 (W2.setCell ⟨w.heap.size + 2, 0, none⟩ (.int .i64 er)) := (Upd.refl _ _).setCell (.inl (by simp)) _
      refine ⟨Keeps.of_upd hUa (fun k hk => ?_), rfl, pre, (yo, ins, er), rfl, HOK.out, HER.out, ⟨T.out.upd.trans_new hUa (by simp), ?_, hUa.get T.out.sum (by simp), ?_⟩⟩
      · have hg0 := HST.out.lt
        have hk2 : k < w1.heap.size + 2 ∧ k ≠ w.heap.size + 2 := by
          simp only [List.mem_cons] at hk
          rcases hk with rfl | rfl | rfl | rfl | hk
          · omega
          · omega
          · omega
          · exact ⟨by omega, by omega⟩
          · have := hbk k hk; omega
        exact ⟨by simp; omega, by omega⟩
      · obtain ⟨ao, cap, vs, h1, h2⟩ := T.out.out
        exact ⟨ao, cap, vs, hUa.get h1 (by simp), h2.upd hUa (by simp; omega)⟩
      · have := blk_set (i := 0) T.out.bad (.int .i64 er)
        simpa using this
end Go.Proofs.YtekbhfpdakhhkaaDoor.Fr
