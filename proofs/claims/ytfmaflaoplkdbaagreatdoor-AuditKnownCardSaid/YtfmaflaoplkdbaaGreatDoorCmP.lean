/- varint.Text, Int of 0; cmd.Put, Batch. -/
import Derived.Test.YtfmaflaoplkdbaaGreatDoorVarAll
import Derived.Test.YtfmaflaoplkdbaaGreatDoorTrSA
import Derived.Lib.AppendStr
set_option linter.unusedSimpArgs false
set_option linter.unusedVariables false
set_option linter.unnecessarySimpa false
namespace Go.Proofs.YtfmaflaoplkdbaaGreatDoor.Tr
open Go.RowKit Go.Lib Go.Proofs.YtfmaflaoplkdbaaGreatDoor.Crc Go.Proofs.YtfmaflaoplkdbaaGreatDoor.Cm Go.Proofs.YtfmaflaoplkdbaaGreatDoor.Var

theorem run_append_mystr {P : Program} (w : World) (base : Nat) (t u ty e : TypeId) (i : TypeInfo) (ht : P.underlying t = some (.slice e)) (hu : P.underlying u = some .string) (hi : P.info? e = some i) (hz : i.zero = some (.int .u8 0))
    (hsize : i.size = 1) (hby : i.bytes = 1) (v : Value) (n : Nat) (xs : List Value) (hown : w.ownsRow base e 1 v n xs) (s : ByteArray)
    (h63 : n + s.size ≤ maxLen) (hbytes : n + s.size ≤ 140737488355328) (hbase : base ≤ w.heap.size) :
    ∃ v' w', (Builtin.append_ #[t, u] ty #[v, .string s]).run P w = .ok v' w' ∧ w'.ownsRow base e 1 v' (n + s.size) (xs ++ strCells s) ∧ Upd v.ownBlock.toList w w' ∧ (∀ g, v'.ownBlock = some g → v.ownBlock = some g ∨ w.heap.size ≤ g) := by
  obtain ⟨v', w', hr, h2, h3, h4⟩ := run_append_own_string (P := P) w base t u ty e i ht hu hi hz hsize hby v n xs hown s h63 hbytes hbase
  refine ⟨v', w', hr, h2, upd_of_grown h3, fun g' hg' => ?_⟩
  have h63' : n + s.size ≤ 9223372036854775807 := by simp only [maxLen] at h63; omega
  rcases hown.2 with ⟨rfl, rfl⟩ | ⟨g, cap, cur, rfl, hbg, hg, hnc, hcm, hcs, htake⟩
  · have hx : xs = [] := List.eq_nil_of_length_eq_zero (by simpa using hown.1)
    subst hx
    obtain ⟨v2, w2, hr2, h22, _, _⟩ := run_append_own_string (P := P) w w.heap.size t u ty e i ht hu hi hz hsize hby (.slice none 0 0) 0 [] (World.ownsRow_nil w w.heap.size e 1) s h63 hbytes (Nat.le_refl _)
    rw [hr] at hr2
    injection hr2 with e1 e2
    subst e1; subst e2
    exact .inr (h22.lt g' hg').1
  · by_cases hroom : n + s.size ≤ cap
    · have hcs' : cur.size = cap := by simpa using hcs
      have hr2 := run_append_room_string (P := P) w t u ty e i ht hu hi hsize g n cap cur hg s hroom (by omega)
      rw [hr] at hr2
      injection hr2 with e1 e2
      rw [e1] at hg'
      exact .inl hg'
    · have holds : ∀ j u, xs[j]? = some u → w.cell? ((⟨g, 0, none⟩ : Addr).add j) = some u := hown.cells (g := g) rfl
      have hxl : xs.length = n := by simpa using hown.1
      have hr2 := run_append_grow_string (P := P) w t u ty e i (.int .u8 0) ht hu hi hz ⟨g, 0, none⟩ n cap xs (by rw [hsize]; simpa using hxl) holds s (by omega) (by omega) (by rw [hby]; exact growslice_fits (by omega) (by omega))
      rw [hr] at hr2
      injection hr2 with e1 e2
      rw [e1] at hg'
      simp [Value.ownBlock] at hg'
      exact .inr (by omega)
theorem wpList_append_mystr {P : Program} (w : World) {ops : Array Oper} {rest : List Oper} {o : Oper} {a : Act} {Q : Exit → Act → World → Prop} (hgd : o.guard = none) (sl x : Operand) (t u : TypeId)
    (ho : o.op = .call { callee := .builtin .append, args := #[sl, x], argTypes := #[t, u] })
    (base : Nat) (e : TypeId) (i : TypeInfo) (ht : P.underlying t = some (.slice e)) (hu : P.underlying u = some .string) (hi : P.info? e = some i) (hz : i.zero = some (.int .u8 0))
    (hsize : i.size = 1) (hby : i.bytes = 1)
    (v : Value) (n : Nat) (xs : List Value) (hs : a.eval sl = v) (hown : w.ownsRow base e 1 v n xs) (s : ByteArray) (hx : a.eval x = .string s)
    (h63 : n + s.size ≤ maxLen) (hbytes : n + s.size ≤ 140737488355328) (hbase : base ≤ w.heap.size)
    (h : ∀ v' w', w'.ownsRow base e 1 v' (n + s.size) (xs ++ strCells s) → Upd v.ownBlock.toList w w' → (∀ g, v'.ownBlock = some g → v.ownBlock = some g ∨ w.heap.size ≤ g) → wpList P ops Q rest (a.put o.dst v') w') : wpList P ops Q (o :: rest) a w := by
  refine wpList_plain hgd fun K hK => ?_
  obtain ⟨v', w', hr, h2, h3, h4⟩ := run_append_mystr (P := P) w base t u o.type e i ht hu hi hz hsize hby v n xs hown s h63 hbytes hbase
  unfold Oper.wp execOp
  simp only [ho, resolve, invoke, builtin, Sem.run_bind, Sem.run_pure, Result.andThen_ok, List.map_toArray, List.map_cons, List.map_nil, hs, hx, hr]
  exact hK _ _ (h v' w' h2 h3 h4)
theorem strCells_of (s : List UInt8) : strCells (strOf s) = s.map u8v := by
  simp [strCells, strOf, u8v]
theorem Grew.trans {w w1 w2 : World} {base : Nat} {v v1 v2 : Value} {b1 b2 : List UInt8} (h : Grew w base v b1 v1 w1) (k : Grew w1 base v1 b2 v2 w2) (hz : w.heap.size ≤ w1.heap.size) : Grew w base v b2 v2 w2 :=
  ⟨k.own, h.upd.trans_new k.upd (fun g hm => by
    have hg : v1.ownBlock = some g := by simpa using hm
    rcases h.new g hg with h1 | h1
    · exact .inl (by simp [h1])
    · exact .inr h1), fun g hg => by
    rcases k.new g hg with h1 | h1
    · exact h.new g h1
    · exact .inr (by omega)⟩
set_option maxRecDepth 100000 in
set_option maxHeartbeats 1000000 in
theorem text_any {base : Nat} {v : Value} {bs s : List UInt8} (w : World) (hv : w.ownsRow base 5 1 v bs.length (bs.map u8v)) (hb : base ≤ w.heap.size) (hl : bs.length ≤ 1000000000) (hs : s.length ≤ 1000000000) :
    Calls Tryz.prog 98 #[v, .string (strOf s)] w fun e w' => ∃ v', e = .returned v' ∧ Grew w base v (bs ++ (uv s.length ++ s)) v' w' := by
  have hz := strOf_size s
  obtain ⟨i0, hi, hz0, hz1, hz2⟩ := info_parts infoB
  obtain ⟨ao, cap, rfl, -, -, -⟩ := owns_slice hv
  have HV := hide hv
  clear hv
  go_enter Tryz.func98, Tryz.ntmps98
  go_wp2_with fail
  refine (uint_any (base := base) (n := s.length) _ HV.out hb (by omega) (by omega)).mono ?_
  rintro e w1 ⟨v1, rfl, h1⟩
  have hul := uv_len10 (n := s.length) (by omega)
  have hz1' := h1.upd.size
  have G1 := hide h1
  clear h1
  go_wp2_with (at_builtin; go_must (refine wpList_append_mystr _ rfl _ _ 27 9 rfl base 5 i0 Tryz.underlying27 Tryz.underlying9 hi hz0 hz1 hz2 v1 _ _ rfl G1.out.own (strOf s) rfl (by rw [hz, List.length_append]; unfold maxLen; omega) (by rw [hz, List.length_append]; omega) (by omega) ?_))
  intro v2 w2 ho hu hn
  have hg2 : Grew w1 base v1 (bs ++ (uv s.length ++ s)) v2 w2 := ⟨by simpa [strCells_of, Nat.add_assoc] using ho, hu, hn⟩
  have HG := hide (Grew.trans G1.out hg2 hz1')
  clear ho hu hn hg2 hz G1
  go_wp2_with fail
  go_ret
  exact ⟨_, rfl, HG.out⟩
set_option maxRecDepth 100000 in
set_option maxHeartbeats 1000000 in
theorem int0_any {base : Nat} {v : Value} {bs : List UInt8} (w : World) (hv : w.ownsRow base 5 1 v bs.length (bs.map u8v)) (hb : base ≤ w.heap.size) (hl : bs.length ≤ 1000000000) :
    Calls Tryz.prog 99 #[v, .int .i64 0] w fun e w' => ∃ v', e = .returned v' ∧ Grew w base v (bs ++ uv 0) v' w' := by
  obtain ⟨ao, cap, rfl, -, -, -⟩ := owns_slice hv
  have HV := hide hv
  clear hv
  go_enter Tryz.func99, Tryz.ntmps99
  go_wp2_with fail
  refine (uint_any (base := base) (n := 0) _ HV.out hb (by omega) (by omega)).mono ?_
  rintro e w1 ⟨v1, rfl, h1⟩
  have HG := hide h1
  clear h1
  go_wp2_with fail
  go_ret
  exact ⟨_, rfl, HG.out⟩
def keyB (k : List UInt8) : List UInt8 := uv k.length ++ k
/-- A command's bytes, where its number is 0. -/
def oneM (c : Cm) : List UInt8 := uv c.client ++ (uv c.seq ++ (uv c.kind ++ (uv c.keys.length ++ (c.keys.flatMap keyB ++ (keyB c.old ++ (keyB c.new ++ uv 0))))))
theorem keysB_len (l : List (List UInt8)) (h : ∀ k ∈ l, k.length ≤ 32) : (l.flatMap keyB).length ≤ l.length * 42 := by
  induction l with
  | nil => simp
  | cons k l ih =>
    have h1 := ih fun k hk => h k (by simp [hk])
    have h2 := h k (by simp)
    have h3 := uv_len10 (n := k.length) (by omega)
    rw [List.flatMap_cons, List.length_append, List.length_cons]
    simp only [keyB, List.length_append]
    omega
theorem oneM_len {c : Cm} (hf : c.Fits) (hg : Cm.Good c) : (oneM c).length ≤ 1000 := by
  obtain ⟨f1, f2, f3, -⟩ := hf
  obtain ⟨-, -, -, -, g5, g6, g7, g8, -⟩ := hg
  have h0 := keysB_len c.keys fun k hk => (g6 k hk).2
  have h16 : hi c.kind ≤ 16 := by unfold hi; split <;> (try split) <;> (try split) <;> omega
  have h1 := uv_len10 (n := c.client) (by omega)
  have h2 := uv_len10 (n := c.seq) (by omega)
  have h3 := uv_len10 (n := c.kind) (by omega)
  have h4 := uv_len10 (n := c.keys.length) (by omega)
  have h5 := uv_len10 (n := c.old.length) (by omega)
  have h6 := uv_len10 (n := c.new.length) (by omega)
  have h7 := uv_len10 (n := 0) (by omega)
  simp only [oneM, keyB, List.length_append]
  omega
set_option maxRecDepth 100000 in
set_option maxHeartbeats 4000000 in
theorem put_any {base : Nat} {T : Nat → Prop} {v vc : Value} {bs : List UInt8} {c : Cm} (w : World) (hv : w.ownsRow base 5 1 v bs.length (bs.map u8v)) (hb : base ≤ w.heap.size) (hl : bs.length ≤ 1000000) (hc : CmAt w T vc c) (hT : ∀ k, T k → k < base) (hgd : Cm.Good c) (hn : c.n = 0) :
    Calls Tryz.prog 51 #[v, vc] w fun e w' => ∃ v', e = .returned v' ∧ Grew w base v (bs ++ oneM c) v' w' := by
  obtain ⟨fit, ks, rfl, hks⟩ := hc
  obtain ⟨f1, f2, f3, -⟩ := id fit
  have hmax := oneM_len fit hgd
  obtain ⟨-, -, -, -, g5, g6, g7, g8, -⟩ := id hgd
  have h16 : hi c.kind ≤ 16 := by unfold hi; split <;> (try split) <;> (try split) <;> omega
  have hkl : c.keys.length ≤ 16 := by omega
  obtain ⟨ka, kc, rfl, k1, k2, hkg⟩ := hks.get
  have hlt := owns_lt hv
  obtain ⟨ao, cap, rfl, -, -, -⟩ := owns_slice hv
  have HV := hide hv; have HKG := hide hkg; have HLT := hide hlt; have G6 := hide g6; have KSX := hide hks; have HTX := hide hT
  simp only [maxLen] at k2
  clear hv hkg hlt hks fit hgd g6 hT
  unfold cmv
  simp only [strV, hn]
  go_enter Tryz.func51, Tryz.ntmps51
  go_wp2_with fail
  have hX := blk_new w (.cells #[.int .u32 (c.client : Int), .int .u32 (c.seq : Int), .int .u8 (c.kind : Int), .slice ka c.keys.length kc, .string (strOf c.old), .string (strOf c.new), .int .i64 0] TCmd)
  have hU := (Upd.refl [] w).alloc (.cells #[.int .u32 (c.client : Int), .int .u32 (c.seq : Int), .int .u8 (c.kind : Int), .slice ka c.keys.length kc, .string (strOf c.old), .string (strOf c.new), .int .i64 0] TCmd)
  have hzz : (w.alloc (.cells #[.int .u32 (c.client : Int), .int .u32 (c.seq : Int), .int .u8 (c.kind : Int), .slice ka c.keys.length kc, .string (strOf c.old), .string (strOf c.new), .int .i64 0] TCmd)).heap.size = w.heap.size + 1 := by simp
  generalize w.alloc (.cells #[.int .u32 (c.client : Int), .int .u32 (c.seq : Int), .int .u8 (c.kind : Int), .slice ka c.keys.length kc, .string (strOf c.old), .string (strOf c.new), .int .i64 0] TCmd) = w0 at *
  have hnx : w.heap.size ∉ (Value.slice ao bs.length cap).ownBlock.toList := fun hm => by have := (HLT.out _ (by simpa using hm)).2; omega
  have HNX := hide hnx; have X := hide hX; have X0 := hide hX; have U0 := hide hU
  have G0 : Hid (Grew w0 base (.slice ao bs.length cap) bs (.slice ao bs.length cap) w0) := hide ⟨owns_upd HV.out hU (by simp), Upd.refl _ _, fun g hg => .inl hg⟩
  have u1 := uv_len10 (n := c.client) (by omega)
  have u2 := uv_len10 (n := c.seq) (by omega)
  have u3 := uv_len10 (n := c.kind) (by omega)
  have u4 := uv_len10 (n := c.keys.length) (by omega)
  clear hX hU hnx
  obtain ⟨B1, hB1⟩ : ∃ B, bs ++ uv (c.client) = B := ⟨_, rfl⟩
  have hL1 : B1.length ≤ 1000000 + 10 * 1 := by rw [← hB1, List.length_append]; omega
  refine (uint_any (base := base) (n := c.client) _ G0.out.own (by have := G0.out.upd.size; omega) (by omega) (by omega)).mono ?_
  rw [hB1]
  rintro e w1 ⟨v1, rfl, h1⟩
  have g1 := Grew.trans G0.out h1 G0.out.upd.size
  obtain ⟨a1, p1, rfl, -, -, -⟩ := owns_slice h1.own
  have X1 := hide (g1.upd.get X.out HNX.out)
  have G1 := hide g1; have HB1 := hide hB1
  clear h1 g1 hB1
  have x0 : w1.cell? ⟨w.heap.size, 0, none⟩ = some (.int .u32 (c.client : Int)) := blk_cell X1.out rfl
  have x1 : w1.cell? ⟨w.heap.size, 1, none⟩ = some (.int .u32 (c.seq : Int)) := blk_cell X1.out rfl
  have x2 : w1.cell? ⟨w.heap.size, 2, none⟩ = some (.int .u8 (c.kind : Int)) := blk_cell X1.out rfl
  have x3 : w1.cell? ⟨w.heap.size, 3, none⟩ = some (.slice ka c.keys.length kc) := blk_cell X1.out rfl
  go_wp2_with fail
  clear x0 x1 x2 x3
  obtain ⟨B2, hB2⟩ : ∃ B, B1 ++ uv (c.seq) = B := ⟨_, rfl⟩
  have hL2 : B2.length ≤ 1000000 + 10 * 2 := by rw [← hB2, List.length_append]; omega
  refine (uint_any (base := base) (n := c.seq) _ G1.out.own (by have := G1.out.upd.size; omega) (by omega) (by omega)).mono ?_
  rw [hB2]
  rintro e w2 ⟨v2, rfl, h2⟩
  have g2 := Grew.trans G1.out h2 G1.out.upd.size
  obtain ⟨a2, p2, rfl, -, -, -⟩ := owns_slice h2.own
  have X2 := hide (g2.upd.get X.out HNX.out)
  have G2 := hide g2; have HB2 := hide hB2
  clear h2 g2 hB2
  have x0 : w2.cell? ⟨w.heap.size, 0, none⟩ = some (.int .u32 (c.client : Int)) := blk_cell X2.out rfl
  have x1 : w2.cell? ⟨w.heap.size, 1, none⟩ = some (.int .u32 (c.seq : Int)) := blk_cell X2.out rfl
  have x2 : w2.cell? ⟨w.heap.size, 2, none⟩ = some (.int .u8 (c.kind : Int)) := blk_cell X2.out rfl
  have x3 : w2.cell? ⟨w.heap.size, 3, none⟩ = some (.slice ka c.keys.length kc) := blk_cell X2.out rfl
  go_wp2_with fail
  clear x0 x1 x2 x3
  obtain ⟨B3, hB3⟩ : ∃ B, B2 ++ uv (c.kind) = B := ⟨_, rfl⟩
  have hL3 : B3.length ≤ 1000000 + 10 * 3 := by rw [← hB3, List.length_append]; omega
  refine (uint_any (base := base) (n := c.kind) _ G2.out.own (by have := G2.out.upd.size; omega) (by omega) (by omega)).mono ?_
  rw [hB3]
  rintro e w3 ⟨v3, rfl, h3⟩
  have g3 := Grew.trans G2.out h3 G2.out.upd.size
  obtain ⟨a3, p3, rfl, -, -, -⟩ := owns_slice h3.own
  have X3 := hide (g3.upd.get X.out HNX.out)
  have G3 := hide g3; have HB3 := hide hB3
  clear h3 g3 hB3
  have x0 : w3.cell? ⟨w.heap.size, 0, none⟩ = some (.int .u32 (c.client : Int)) := blk_cell X3.out rfl
  have x1 : w3.cell? ⟨w.heap.size, 1, none⟩ = some (.int .u32 (c.seq : Int)) := blk_cell X3.out rfl
  have x2 : w3.cell? ⟨w.heap.size, 2, none⟩ = some (.int .u8 (c.kind : Int)) := blk_cell X3.out rfl
  have x3 : w3.cell? ⟨w.heap.size, 3, none⟩ = some (.slice ka c.keys.length kc) := blk_cell X3.out rfl
  go_wp2_with fail
  clear x0 x1 x2 x3
  obtain ⟨B4, hB4⟩ : ∃ B, B3 ++ uv (c.keys.length) = B := ⟨_, rfl⟩
  have hL4 : B4.length ≤ 1000000 + 10 * 4 := by rw [← hB4, List.length_append]; omega
  refine (uint_any (base := base) (n := c.keys.length) _ G3.out.own (by have := G3.out.upd.size; omega) (by omega) (by omega)).mono ?_
  rw [hB4]
  rintro e w4 ⟨v4, rfl, h4⟩
  have g4 := Grew.trans G3.out h4 G3.out.upd.size
  obtain ⟨a4, p4, rfl, -, -, -⟩ := owns_slice h4.own
  have X4 := hide (g4.upd.get X.out HNX.out)
  have G4 := hide g4; have HB4 := hide hB4
  clear h4 g4 hB4
  have x0 : w4.cell? ⟨w.heap.size, 0, none⟩ = some (.int .u32 (c.client : Int)) := blk_cell X4.out rfl
  have x1 : w4.cell? ⟨w.heap.size, 1, none⟩ = some (.int .u32 (c.seq : Int)) := blk_cell X4.out rfl
  have x2 : w4.cell? ⟨w.heap.size, 2, none⟩ = some (.int .u8 (c.kind : Int)) := blk_cell X4.out rfl
  have x3 : w4.cell? ⟨w.heap.size, 3, none⟩ = some (.slice ka c.keys.length kc) := blk_cell X4.out rfl
  go_wp2_with fail
  clear x0 x1 x2 x3
  go_loopw [0, 31] (fun sv si wr => ∃ (k : Nat) (B : List UInt8), k ≤ c.keys.length ∧ si = .int .i64 k ∧ B = B4 ++ (c.keys.take k).flatMap keyB ∧ Grew w0 base (.slice ao bs.length cap) B sv wr) (fun _ si _ => c.keys.length - (intOf si).toNat)
  case atStart => exact ⟨0, B4, by omega, rfl, by simp, G4.out⟩
  case round =>
    obtain ⟨k, B, hk, rfl, hB, hg⟩ := hrel
    have HB := hide hB; have HG := hide hg
    have hlB : B.length ≤ 1001000 := by
      have h1 := keysB_len (c.keys.take k) fun k hk => (G6.out k (List.mem_of_mem_take hk)).2
      rw [List.length_take] at h1
      rw [hB, List.length_append]
      omega
    have hzr := hg.upd.size
    have X5 := hide (hg.upd.get X.out HNX.out)
    obtain ⟨ar, cr, rfl, -, -, -⟩ := owns_slice hg.own
    clear hB
    by_cases hlt : k < c.keys.length
    · have d5 : decide ((k : Int) < c.keys.length) = true := by simp; omega
      have d5' : decide (k < c.keys.length) = true := by simpa using hlt
      obtain ⟨q, hq⟩ : ∃ q, c.keys[k]? = some q := ⟨_, List.getElem?_eq_getElem hlt⟩
      obtain ⟨b, off, rfl, hbl, hcell⟩ := HKG.out k q hq
      have hql := (G6.out q (List.mem_of_getElem? hq)).2
      have hTb : b < base ∧ b < w.heap.size := by
        obtain ⟨xo', c', e1, h1, -, -, h4⟩ := KSX.out
        cases e1
        have := HTX.out _ (h4 _ rfl (by omega))
        simp only at this
        omega
      have hcw : w0.cell? ⟨b, off + k, none⟩ = some (.string (strOf q)) := by
        rw [← hcell]; have := U0.out.block b hTb.2 (by simp); simp only [World.cell?, this]
      have hcr : wr.cell? ⟨b, off + k, none⟩ = some (.string (strOf q)) := by
        have h1 : b ∉ (Value.slice ao bs.length cap).ownBlock.toList := fun hm => by have := (HLT.out _ (by simpa using hm)).1; omega
        have := hg.upd.block b (by omega) h1
        rw [← hcw]; simp only [World.cell?, this]
      have hfm := flat_more keyB hq
      have HFM := hide hfm
      clear hg hq hcell hcw hfm
      obtain ⟨B', hB'⟩ : ∃ B', B ++ (uv q.length ++ q) = B' := ⟨_, rfl⟩
      go_wp2_with fail
      refine (text_any (base := base) (bs := B) (s := q) _ HG.out.own (by omega) (by omega) (by omega)).mono ?_
      rw [hB']
      rintro e w5 ⟨v5, rfl, h5⟩
      have g5 := Grew.trans HG.out h5 hzr
      obtain ⟨a5, p5, rfl, -, -, -⟩ := owns_slice h5.own
      have hb5 : B' = B4 ++ (c.keys.take (k + 1)).flatMap keyB := by rw [← hB', HB.out, ← HFM.out]; simp [keyB]
      have G5 := hide g5; have HB5 := hide hb5
      clear h5 g5 hb5 hB'
      go_wp2_with fail
      go_roundw
      case rel => exact ⟨k + 1, B', by omega, by go_num, HB5.out, G5.out⟩
      case measure => simp [intOf]; omega
    · have d5 : decide ((k : Int) < c.keys.length) = false := by simp; omega
      have d5' : decide (k < c.keys.length) = false := by simpa using hlt
      have hBk : B = B4 ++ c.keys.flatMap keyB := by rw [HB.out, List.take_of_length_le (by omega)]
      have HBK := hide hBk
      clear hg hBk
      obtain ⟨B5, hB5⟩ : ∃ B5, B ++ (uv c.old.length ++ c.old) = B5 := ⟨_, rfl⟩
      obtain ⟨B6, hB6⟩ : ∃ B6, B5 ++ (uv c.new.length ++ c.new) = B6 := ⟨_, rfl⟩
      obtain ⟨B7, hB7⟩ : ∃ B7, B6 ++ uv 0 = B7 := ⟨_, rfl⟩
      have e5 := uv_len10 (n := c.old.length) (by omega)
      have e6 := uv_len10 (n := c.new.length) (by omega)
      have hL5 : B5.length ≤ 1002000 := by rw [← hB5, List.length_append, List.length_append]; omega
      have hL6 : B6.length ≤ 1003000 := by rw [← hB6, List.length_append, List.length_append]; omega
      have hfin : B7 = bs ++ oneM c := by
        rw [← hB7, ← hB6, ← hB5, HBK.out, ← HB4.out, ← HB3.out, ← HB2.out, ← HB1.out]
        simp only [oneM, keyB, List.append_assoc]
      have HFIN := hide hfin; have HB5 := hide hB5; have HB6 := hide hB6; have HB7 := hide hB7
      clear hfin hB5 hB6 hB7
      go_wp2_with fail
      have hX6 : (wr.drewN 1).heap[w.heap.size]? = some (.cells #[.int .u32 (c.client : Int), .int .u32 (c.seq : Int), .int .u8 (c.kind : Int), .slice ka c.keys.length kc, .string (strOf c.old), .string (strOf c.new), .int .i64 0] TCmd (0, 0)) := X5.out
      have y4 : (wr.drewN 1).cell? ⟨w.heap.size, 4, none⟩ = some (.string (strOf c.old)) := blk_cell hX6 rfl
      have y5 : (wr.drewN 1).cell? ⟨w.heap.size, 5, none⟩ = some (.string (strOf c.new)) := blk_cell hX6 rfl
      have y6 : (wr.drewN 1).cell? ⟨w.heap.size, 6, none⟩ = some (.int .i64 0) := blk_cell hX6 rfl
      have gd : Grew w0 base (.slice ao bs.length cap) B (.slice ar B.length cr) (wr.drewN 1) := ⟨owns_upd HG.out.own ((Upd.refl [] wr).drewN 1) (by simp), HG.out.upd.drewN 1, HG.out.new⟩
      have GD := hide gd
      have hzd : (wr.drewN 1).heap.size = wr.heap.size := rfl
      clear gd hX6
      refine wp_region_z (fun w' => w'.cell? ⟨w.heap.size, 4, none⟩ = some (.string (strOf c.old)) ∧ w'.cell? ⟨w.heap.size, 5, none⟩ = some (.string (strOf c.new)) ∧ w'.cell? ⟨w.heap.size, 6, none⟩ = some (.int .i64 0)) 99 (by kernel_rfl) ?_
      generalize wr.drewN 1 = wd at *
      refine wpAnyZ_takeE 0 rfl (by kernel_rfl) (by kernel_rfl) (by kernel_rfl) (by kernel_rfl) (fun _ _ _ _ h => h) rfl (by exact ⟨y4, y5, y6⟩) ?_
      apply Exists.intro
      refine ⟨fun wx hS => ?_, ?_⟩
      · obtain ⟨s0, s1, s2⟩ := hS; go_simp; rfl
      simp only [Act.put, List.setIfInBounds_toArray, List.set_cons_succ, List.set_cons_zero, List.getElem_toArray, List.getElem_cons_zero]
      refine wpAnyZ_takeE 1 rfl (by kernel_rfl) (by kernel_rfl) (by kernel_rfl) (by kernel_rfl) (fun _ _ _ _ h => h) rfl (by exact ⟨y4, y5, y6⟩) ?_
      apply Exists.intro
      refine ⟨fun wx hS => ?_, ?_⟩
      · obtain ⟨s0, s1, s2⟩ := hS; go_simp; rfl
      simp only [Act.put, List.setIfInBounds_toArray, List.set_cons_succ, List.set_cons_zero, List.getElem_toArray, List.getElem_cons_succ, List.getElem_cons_zero]
      refine wpAnyZ_takeE 2 rfl (by kernel_rfl) (by kernel_rfl) (by kernel_rfl) (by kernel_rfl) (fun _ _ _ _ h => h) rfl (by exact ⟨y4, y5, y6⟩) ?_
      apply Exists.intro
      refine ⟨fun wx hS => ?_, ?_⟩
      · obtain ⟨s0, s1, s2⟩ := hS; go_simp; rfl
      simp only [Act.put, List.setIfInBounds_toArray, List.set_cons_succ, List.set_cons_zero, List.getElem_toArray, List.getElem_cons_succ, List.getElem_cons_zero]
      refine wpAnyZ_takeE 4 rfl (by kernel_rfl) (by kernel_rfl) (by kernel_rfl) (by kernel_rfl) (fun _ _ _ _ h => h) rfl (by exact ⟨y4, y5, y6⟩) ?_
      apply Exists.intro
      refine ⟨fun wx hS => ?_, ?_⟩
      · obtain ⟨s0, s1, s2⟩ := hS; go_simp; rfl
      simp only [Act.put, List.setIfInBounds_toArray, List.set_cons_succ, List.set_cons_zero, List.getElem_toArray, List.getElem_cons_succ, List.getElem_cons_zero]
      refine wpAnyZ_takeE 5 rfl (by kernel_rfl) (by kernel_rfl) (by kernel_rfl) (by kernel_rfl) (fun _ _ _ _ h => h) rfl (by exact ⟨y4, y5, y6⟩) ?_
      apply Exists.intro
      refine ⟨fun wx hS => ?_, ?_⟩
      · obtain ⟨s0, s1, s2⟩ := hS; go_simp; rfl
      simp only [Act.put, List.setIfInBounds_toArray, List.set_cons_succ, List.set_cons_zero, List.getElem_toArray, List.getElem_cons_succ, List.getElem_cons_zero]
      refine wpAnyZ_takeE 7 rfl (by kernel_rfl) (by kernel_rfl) (by kernel_rfl) (by kernel_rfl) (fun _ _ _ _ h => h) rfl (by exact ⟨y4, y5, y6⟩) ?_
      apply Exists.intro
      refine ⟨fun wx hS => ?_, ?_⟩
      · obtain ⟨s0, s1, s2⟩ := hS; go_simp; rfl
      simp only [Act.put, List.setIfInBounds_toArray, List.set_cons_succ, List.set_cons_zero, List.getElem_toArray, List.getElem_cons_succ, List.getElem_cons_zero]
      refine wpAnyZ_takeE 8 rfl (by kernel_rfl) (by kernel_rfl) (by kernel_rfl) (by kernel_rfl) (fun _ _ _ _ h => h) rfl (by exact ⟨y4, y5, y6⟩) ?_
      apply Exists.intro
      refine ⟨fun wx hS => ?_, ?_⟩
      · obtain ⟨s0, s1, s2⟩ := hS; go_simp; rfl
      simp only [Act.put, List.setIfInBounds_toArray, List.set_cons_succ, List.set_cons_zero, List.getElem_toArray, List.getElem_cons_succ, List.getElem_cons_zero]
      refine wpAnyZ_one 3 (by kernel_rfl) rfl rfl (fun K hK => ?_)
      try simp only [List.getElem_toArray, List.getElem_cons_succ, List.getElem_cons_zero]
      go_simp
      refine (text_any (base := base) (bs := B) (s := c.old) _ GD.out.own (by omega) (by omega) (by omega)).mono ?_
      rw [HB5.out]
      rintro e w5 ⟨v5, rfl, h5⟩
      have g5 := Grew.trans GD.out h5 (by omega)
      obtain ⟨a5, p5, rfl, -, -, -⟩ := owns_slice h5.own
      have X5' := g5.upd.get X.out HNX.out
      have hs5 := And.intro (blk_cell (i := 4) (v := .string (strOf c.old)) X5' rfl) (And.intro (blk_cell (i := 5) (v := .string (strOf c.new)) X5' rfl) (blk_cell (i := 6) (v := .int .i64 0) X5' rfl))
      have hz5 := g5.upd.size
      have G5 := hide g5
      clear h5 g5 X5' y4 y5 y6
      refine hK _ _ (.inr hs5) ?_
      clear hK K
      try simp only [Act.put, List.setIfInBounds_toArray, List.set_cons_succ, List.set_cons_zero]
      refine wpAnyZ_one 6 (by kernel_rfl) rfl rfl (fun K hK => ?_)
      try simp only [List.getElem_toArray, List.getElem_cons_succ, List.getElem_cons_zero]
      go_simp
      refine (text_any (base := base) (bs := B5) (s := c.new) _ G5.out.own (by omega) (by omega) (by omega)).mono ?_
      rw [HB6.out]
      rintro e w6 ⟨v6, rfl, h6⟩
      have g6 := Grew.trans G5.out h6 hz5
      obtain ⟨a6, p6, rfl, -, -, -⟩ := owns_slice h6.own
      have X6' := g6.upd.get X.out HNX.out
      have hs6 := And.intro (blk_cell (i := 4) (v := .string (strOf c.old)) X6' rfl) (And.intro (blk_cell (i := 5) (v := .string (strOf c.new)) X6' rfl) (blk_cell (i := 6) (v := .int .i64 0) X6' rfl))
      have hz6 := g6.upd.size
      have G6' := hide g6
      clear h6 g6 X6' hs5
      refine hK _ _ (.inr hs6) ?_
      clear hK K
      try simp only [Act.put, List.setIfInBounds_toArray, List.set_cons_succ, List.set_cons_zero]
      refine wpAnyZ_one 9 (by kernel_rfl) rfl rfl (fun K hK => ?_)
      try simp only [List.getElem_toArray, List.getElem_cons_succ, List.getElem_cons_zero]
      go_simp
      refine (int0_any (base := base) (bs := B6) _ G6'.out.own (by omega) (by omega)).mono ?_
      rw [HB7.out]
      rintro e w7 ⟨v7, rfl, h7⟩
      have g7 := Grew.trans G6'.out h7 hz6
      obtain ⟨a7, p7, rfl, -, -, -⟩ := owns_slice h7.own
      have X7' := g7.upd.get X.out HNX.out
      have hs7 := And.intro (blk_cell (i := 4) (v := .string (strOf c.old)) X7' rfl) (And.intro (blk_cell (i := 5) (v := .string (strOf c.new)) X7' rfl) (blk_cell (i := 6) (v := .int .i64 0) X7' rfl))
      have G7 := hide g7
      clear h7 g7 X7' hs6
      refine hK _ _ (.inr hs7) ?_
      clear hK K
      try simp only [Act.put, List.setIfInBounds_toArray, List.set_cons_succ, List.set_cons_zero]
      refine wpAnyZ_one 10 (by kernel_rfl) rfl rfl (fun K hK => ?_)
      try simp only [List.getElem_toArray, List.getElem_cons_succ, List.getElem_cons_zero]
      go_simp
      refine hK _ _ (.inr hs7) ?_
      clear hK K
      try simp only [Act.put, List.setIfInBounds_toArray, List.set_cons_succ, List.set_cons_zero]
      refine wpAnyZ_done (by kernel_rfl) ?_ _
      go_wp2_with fail
      go_ret
      rw [← HFIN.out]
      exact ⟨_, rfl, G7.out.own, U0.out.mono (by simp) |>.trans G7.out.upd, fun g hg => by
        rcases G7.out.new g hg with h | h
        · exact .inl h
        · exact .inr (by omega)⟩
end Go.Proofs.YtfmaflaoplkdbaaGreatDoor.Tr
