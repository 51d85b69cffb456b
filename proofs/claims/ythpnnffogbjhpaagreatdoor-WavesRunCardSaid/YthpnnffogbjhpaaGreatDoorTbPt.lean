/- session.Table.Put: a table's bytes behind some. -/
import Derived.Test.YthpnnffogbjhpaaGreatDoorKyAll
import Derived.Test.YthpnnffogbjhpaaGreatDoorSoQT
import Derived.Test.YthpnnffogbjhpaaGreatDoorKvN
import Derived.Test.YthpnnffogbjhpaaGreatDoorKvTxz
import Derived.Test.YthpnnffogbjhpaaGreatDoorKvPure
import Derived.Test.YthpnnffogbjhpaaGreatDoorVarAll
set_option linter.unusedSimpArgs false
set_option linter.unusedVariables false
set_option linter.unnecessarySimpa false
namespace Go.Proofs.YthpnnffogbjhpaaGreatDoor.Kv
set_option linter.unusedSimpArgs false
set_option linter.unusedVariables false
set_option linter.unnecessarySimpa false
open Go.RowKit Go.Lib Go.Proofs.YthpnnffogbjhpaaGreatDoor.Crc Go.Proofs.YthpnnffogbjhpaaGreatDoor.Cm Go.Proofs.YthpnnffogbjhpaaGreatDoor.Var

attribute [local go_sem] Oper.semAt_some
abbrev u32v (n : Nat) : Value := .int .u32 (n : Int)
set_option maxRecDepth 100000 in
theorem tb_look1 {w : World} {g : Nat} {m : TM} {k : Nat} (h : tbK.is w g m) (hk : k < 4294967296) : (Instr.lookup 108 (.map (some g)) (.int .u32 (k : Int)) false).run Tryz.prog w = .ok (lastV ((mfind m k).getD ⟨0, ⟨0, []⟩⟩)) w :=
  MapKind.look1 h hk
/-- The keys of a table, in whatever order they came, sorted. -/
theorem keysU_sort {m : TM} {ss : List Nat} (hr : Rise cliK m) (hn : ss.Nodup) (hk : ∀ k, k ∈ ss ↔ ∃ v, mfind m k = some v) {d : List Nat} (hp : d.Perm ss) (hs : d.Pairwise fun p q => p ≤ q) : d = m.map (·.1) := by
  have hnd : d.Nodup := hp.nodup_iff.2 hn
  have h1 : d.Pairwise fun p q => p < q := (hs.and hnd).imp fun {a b} h => by obtain ⟨h3, h4⟩ := h; omega
  have h2 : (m.map (·.1)).Pairwise fun p q => p < q := List.pairwise_map.2 (hr.imp fun {a b} h => by have := h; rw [cliK_lt, decide_eq_true_eq] at this; exact this)
  refine List.Perm.eq_of_pairwise (le := fun p q => p < q) (fun a b _ _ h3 h4 => (Nat.lt_asymm h3 h4).elim) h1 h2 ?_
  refine (List.perm_ext_iff_of_nodup hnd (h2.imp fun {a b} h => Nat.ne_of_lt h)).2 fun k => ?_
  rw [hp.mem_iff, hk k, List.mem_map]
  constructor
  · rintro ⟨v, hv⟩
    exact ⟨(k, v), mfind_mem hv, rfl⟩
  · rintro ⟨p, hp, rfl⟩
    exact ⟨p.2, riseU_find hr hp⟩
theorem nodup_lenU {m : TM} {ss : List Nat} (hn : ss.Nodup) (hk : ∀ k ∈ ss, ∃ v, mfind m k = some v) : ss.length ≤ m.length := by
  induction ss generalizing m with
  | nil => simp
  | cons k ss ih =>
    obtain ⟨v, hv⟩ := hk k (by simp)
    obtain ⟨h1, h2⟩ := List.nodup_cons.1 hn
    have h3 := ih h2 (m := mdel m k) fun j hj => by
      obtain ⟨u, hu⟩ := hk j (by simp [hj])
      exact ⟨u, by rw [mfind_del, if_neg (fun e : j = k => h1 (e ▸ hj))]; exact hu⟩
    have h4 := len_del_lt hv
    simp only [List.length_cons]
    omega
theorem leaves_none {P : Program} {fn : Func} {R : Ending → World → Prop} {tmps : Array Value} {W : World} {v : Value} (hr : (results fn tmps).run P W = .ok v W) (hR : R (.returned v) W) :
    bodyPostM Fence.wide 0 P fn R .ret { tmps := tmps, defers := [] } W := ⟨v, hr, hR⟩
theorem walks_updU {w w' : World} {S : List Nat} (h : Upd S w w') (hS : ∀ k ∈ S, ∀ o, w.heap[k]? = some o → o.isWalk = false) : KeepsWalks w w' :=
  ⟨h.size, fun k o hk ho => by
    by_cases hm : k ∈ S
    · rw [hS k hm o hk] at ho; cases ho
    · exact h.get hk hm⟩
theorem own_nowalkU {w : World} {base n z : Nat} {e : TypeId} {v : Value} {xs : List Value} (h : w.ownsRow base e z v n xs) : ∀ k ∈ v.ownBlock.toList, ∀ o, w.heap[k]? = some o → o.isWalk = false := by
  intro k hk o ho
  have hk' : v.ownBlock = some k := by simpa using hk
  rcases h.2 with ⟨rfl, -⟩ | ⟨g, cap, cur, rfl, -, hh, -⟩
  · cases hk'
  · cases hk'
    rw [hh] at ho
    cases ho
    rfl
theorem cell_blkU {w : World} {b i : Nat} {v : Value} (h : w.cell? ⟨b, i, none⟩ = some v) : ∃ cs ty x, w.heap[b]? = some (.cells cs ty x) := by
  unfold World.cell? at h
  split at h
  · rename_i cs ty x hb
    exact ⟨cs, ty, x, hb⟩
  · cases h
/-- Where no panic comes, none is asked about. -/
theorem wp_region_np {P : Program} {id : Nat} {ops : Array Oper} {b : Bool} {Q : Exit → Act → World → Prop} {a : Act} {w : World}
    (h : (Code.region id ops b).wp P (fun e a w => match e with | .panic _ => False | e => Q e a w) a w) : (Code.region id ops b).wp P Q a w :=
  Code.wp_mono (fun e a w h => by cases e <;> first | exact h.elim | exact h) h
theorem infoU : (Tryz.prog.info? 42).map (fun i => (i.zero, i.size, i.bytes)) = some (some (.int .u32 0), 1, 4) := by kernel_rfl
/-- What a table must be for its bytes to be put. -/
def TbPut (t : TM) : Prop := Rise cliK t ∧ t.length ≤ 10000 ∧ ∀ p ∈ t, p.1 < 4294967296 ∧ p.2.seq < 4294967296 ∧ p.2.r.code < 256 ∧ p.2.r.text.length ≤ 5000
theorem tbs_len (t : TM) (h : TbPut t) : (t.flatMap laB).length ≤ 5040 * t.length := by
  have key : ∀ l : TM, (∀ p ∈ l, p.1 < 4294967296 ∧ p.2.seq < 4294967296 ∧ p.2.r.code < 256 ∧ p.2.r.text.length ≤ 5000) → (l.flatMap laB).length ≤ 5040 * l.length := by
    intro l
    induction l with
    | nil => simp
    | cons p l ih =>
      intro h
      have h1 := ih fun q hq => h q (by simp [hq])
      have h2 := h p (by simp)
      have h3 := uv_len10 (n := p.1) (by omega)
      have h4 := uv_len10 (n := p.2.seq) (by omega)
      have h5 := uv_len10 (n := p.2.r.code) (by omega)
      have h6 := uv_len10 (n := p.2.r.text.length) (by omega)
      rw [List.flatMap_cons, List.length_append, List.length_cons]
      simp only [laB, txB, List.length_append]
      omega
  exact key t h.2.2
set_option maxRecDepth 100000 in
set_option maxHeartbeats 8000000 in
theorem tput_any {base b c g : Nat} {v : Value} {bs : List UInt8} {m : TM} (w : World) (h : TbIs w b c g m) (hm : TbPut m) (hv : w.ownsRow base 5 1 v bs.length (bs.map u8v)) (hb : base ≤ w.heap.size) (hbl : bs.length ≤ 100000000)
    (h1 : v.ownBlock ≠ some b) (h2 : v.ownBlock ≠ some g) (h3 : v.ownBlock ≠ some c) :
    Calls Tryz.prog 37 #[.pointer (some ⟨b, 0, none⟩), v] w fun e w' => ∃ v', e = .returned v' ∧ Grew w base v (bs ++ tbB m) v' w' := by
  obtain ⟨ao, cap, rfl, -, -, -⟩ := owns_slice hv
  obtain ⟨i1, hi1, iz0, iz1, iz2⟩ := info_parts infoU
  have hpr := tbs_len m hm
  have hml := hm.2.1
  have hul := uv_len10 (n := m.length) (by omega)
  have hU := uint_any (base := base) (n := m.length) w hv hb (by omega) (by omega)
  obtain ⟨B1, hB1⟩ : ∃ B, bs ++ uv m.length = B := ⟨_, rfl⟩
  have hb1l : B1.length ≤ 100000010 := by rw [← hB1, List.length_append]; omega
  have hgoal : bs ++ tbB m = B1 ++ m.flatMap laB := by rw [tbB, ← hB1]; simp
  rw [hgoal]
  rw [hB1] at hU
  clear hgoal hB1
  have ST := hide h; have HM := hide hm; have HU := hide hU; have H1 := hide h1; have H2 := hide h2; have H3 := hide h3
  clear h hm hU h1 h2 h3 hv
  refine calls_of_wp_marks Tryz.func37 rfl ?_
  simp only [Tryz.ntmps37, List.size_toArray, List.length_cons, List.length_nil, Nat.reduceAdd, Nat.reduceSub, Array.replicate_succ, Array.replicate_zero, List.push_toArray, List.append_toArray, List.nil_append, List.cons_append]
  go_wp2_with fail
  refine (tlen_any w ST.out).mono ?_
  rintro e w0 ⟨rfl, rfl⟩
  have e1 : IntKind.u64.wrap (m.length : Int) = (m.length : Int) := IntWalk.u64_in _ (by omega)
  go_wp2_with fail
  refine HU.out.mono ?_
  rintro e w1 ⟨v1, rfl, hg1⟩
  have G1 := hide hg1
  have hst1 := ST.out.upd hg1.upd (by simpa using H1.out) (by simpa using H3.out) (by simpa using H2.out)
  have ST1 := hide hst1
  obtain ⟨a1, c1, rfl, -, -, -⟩ := owns_slice hg1.own
  have hz1 := hg1.upd.size
  clear hg1 HU
  go_wp2_with fail
  refine (tlen_any w1 hst1).mono ?_
  rintro e w2 ⟨rfl, rfl⟩
  clear hst1
  by_cases hm0 : m.length = 0
  · have q0 : ((m.length : Int) == 0) = true := by rw [hm0]; rfl
    have hme : m = [] := List.eq_nil_of_length_eq_zero hm0
    have HME := hide hme
    clear hm0 hme
    go_wp2_with fail
    exact leaves_none (results_tmp rfl _ _ _) ⟨_, rfl, by rw [HME.out]; simpa using G1.out⟩
  · have q0 : ((m.length : Int) == 0) = false := by
      have : (m.length : Int) ≠ 0 := by omega
      simpa using this
    have hcl := blk_lt ST.out.cli; have hbl2 := blk_lt ST.out.blk; have hgl2 := MapKind.is_lt ST.out.map
    have HB1 := hide (show ∀ k, (Value.slice a1 B1.length c1).ownBlock = some k → k ≠ b ∧ k ≠ g ∧ k ≠ c ∧ k < w1.heap.size from fun k hk => by
      have h3 := owns_lt G1.out.own k hk
      rcases G1.out.new k hk with h4 | h4
      · exact ⟨fun e => H1.out (e ▸ h4), fun e => H2.out (e ▸ h4), fun e => H3.out (e ▸ h4), h3.2⟩
      · exact ⟨by omega, by omega, by omega, h3.2⟩)
    clear H1 H2 H3
    have c0 : (w1.alloc (.cells #[.slice none 0 0] 131)).cell? ⟨b, 0, none⟩ = some (.pointer (some ⟨c, 0, none⟩)) := blk_cell (((Upd.refl [] w1).alloc _).get ST1.out.blk (by simp)) rfl
    have c0c : (w1.alloc (.cells #[.slice none 0 0] 131)).cell? ⟨c, 0, none⟩ = some (.map (some g)) := blk_cell (((Upd.refl [] w1).alloc _).get ST1.out.cli (by simp)) rfl
    have hmp : 0 < m.length := by omega
    clear hm0
    go_wp2_with fail
    refine (mkeysU_any _).mono ?_
    rintro e w2 ⟨rfl, hp1, hz2, hu2⟩
    rw [World.size_alloc] at hp1 hz2 ⊢
    have hbx := hu2.get (blk_new w1 (.cells #[.slice none 0 0] 131)) (by simp)
    have HU2 := hide (((Upd.refl [] w1).alloc (.cells #[.slice none 0 0] 131)).trans hu2); have HP1 := hide hp1; have HBX := hide hbx
    clear hu2 hp1 hbx c0 c0c
    go_wp2_with fail
    refine wp_rangeP (gf := 93) rfl (enters_of Tryz.func93 (by kernel_rfl) rfl) (keysU_iter (p := w1.heap.size + 1) (g := g) (m := m) (fun q hq => (HM.out.2.2 q hq).1)) (fun _ => rfl) (by simp) (by simp)
      (fun W hu => ⟨by obtain ⟨cs, ty, x, hx⟩ := cell_blkU HP1.out; have h2 := hu.get hx (by simp); simp only [World.cell?] at *; rw [h2, ← hx]; exact HP1.out, MapKind.is_upd_nil ST1.out.map (HU2.out.trans hu)⟩)
      (fun pre W => Upd [] w1 W ∧ pre.Nodup ∧ (∀ k ∈ pre, ∃ v, mfind m k = some v) ∧ ∃ ao cap, W.heap[w1.heap.size]? = some (.cells #[.slice ao pre.length cap] 131 (0, 0)) ∧
        W.ownsRow w1.heap.size 42 1 (.slice ao pre.length cap) pre.length (pre.map u32v) ∧ (∀ q, (Value.slice ao pre.length cap).ownBlock = some q → w2.heap.size + 2 ≤ q)) (fun _ _ _ => False) ?hI ?hIw (fun _ _ _ _ h _ => h) ?h0 ?hround ?hdone (fun _ _ _ h _ => h.elim)
    case hI =>
      rintro pre W1 W2 ⟨h1, hn, hk, ao1, cap1, h2, h3, h4⟩ hu
      exact ⟨h1.trans_new hu (by simp; omega), hn, hk, ao1, cap1, hu.get h2 (by simp; omega), owns_upd h3 hu (fun k hk hm => by have := h4 k hk; simp at hm; omega), h4⟩
    case h0 =>
      intro W hu hsz
      exact ⟨HU2.out.trans hu, by simp, by simp, none, 0, hu.get HBX.out (by simp), World.ownsRow_nil W _ _ _, fun q hq => by cases hq⟩
    case hIw =>
      rintro pre r o W1 W2 ⟨h1, hn, hk, ao1, cap1, h2, h3, h4⟩ hge hr ho hu
      have hrn : r ≠ w1.heap.size := by rintro rfl; rw [h2] at hr; cases hr; cases ho
      have hrq : ∀ q, (Value.slice ao1 pre.length cap1).ownBlock = some q → q ∉ [r] := fun q hq hm => by
        simp at hm
        subst hm
        have := own_nowalkU h3 q (by simp [hq]) o hr
        rw [this] at ho
        cases ho
      have hsw := HU2.out.size
      exact ⟨h1.trans_new hu (by simp; omega), hn, hk, ao1, cap1, hu.get h2 (by simpa using fun e => hrn e.symm), owns_upd h3 hu hrq, h4⟩
    case hround =>
      rintro pre k W ⟨hnm, v, hkv⟩ hi hsz
      gi_wp2
      refine ⟨Keeps.refl _ _, KeepsWalks.refl _, fun W2 hu hi2 => ?_⟩
      obtain ⟨h1, hn, hk, ao1, cap1, h2, h3, h4⟩ := hi2 hi
      have hsz2 : w2.heap.size + 2 ≤ W2.heap.size := Nat.le_trans hsz hu.size
      have hpl := nodup_lenU hn hk
      have hnd2 : (pre ++ [k]).Nodup := by
        rw [List.nodup_append]
        exact ⟨hn, by simp, by simp; rintro a ha rfl; exact hnm ha⟩
      have hk2 : ∀ j ∈ pre ++ [k], ∃ v, mfind m j = some v := fun j hj => by
        rcases List.mem_append.1 hj with h | h
        · exact hk j h
        · rw [List.mem_singleton] at h
          exact ⟨v, h ▸ hkv⟩
      obtain ⟨cur, hcur⟩ : ∃ cur, pre.map u32v = cur := ⟨_, rfl⟩
      rw [hcur] at h3
      have HCUR := hide hcur
      have hc := blk_cell (i := 0) h2 rfl
      have hf := blk_free (i := 0) h2
      simp only [List.getElem_toArray, List.getElem_cons_zero] at hc
      have HPL := hide hpl; have ND2 := hide hnd2; have HK2 := hide hk2
      have H1 := hide h1; have H2 := hide h2; have H3 := hide h3; have H4 := hide h4; have HPN := hide hn
      have hl1 : pre.length ≤ 1000000 := by omega
      clear hcur h1 h2 h3 h4 hi hi2 hu hnm hkv hn hk hnd2 hk2 hpl
      gi_wp2_with (gi_at_builtin; go_must (refine wpListIn_append_src _ rfl _ _ 131 rfl w1.heap.size 42 i1 (.int .u32 0) 1 4 Tryz.underlying131 hi1 iz0 iz1 iz2 rfl (by decide) (.slice ao1 pre.length cap1) pre.length cur rfl (H3.out.alloc _) (some ⟨W2.heap.size, 0, none⟩) 1 1 [u32v k] rfl (src_one (cell_new1 rfl) rfl) (by unfold maxLen; omega) (by omega) (by simp; have := H1.out.size; omega) ?_))
      intro ao3 cap3 W3 hown3 hU3 hn3
      have hne : w1.heap.size ∉ (Value.slice ao1 pre.length cap1).ownBlock.toList := fun hm => by
        have := H4.out w1.heap.size (by simpa using hm)
        have := HU2.out.size
        omega
      have hN3 := hU3.get (b := w1.heap.size) (blk_alloc H2.out _) hne
      have hc3 := blk_cell (i := 0) hN3 rfl
      have hf3 := blk_free (i := 0) hN3
      simp only [List.getElem_toArray, List.getElem_cons_zero] at hc3
      have U3 := hide hU3; have O3 := hide hown3; have B3 := hide hN3; have N3 := hide hn3; have NE := hide hne
      clear hN3 hown3 hU3 hn3 hne
      gi_wp2
      have hU : Upd (w1.heap.size :: (Value.slice ao1 pre.length cap1).ownBlock.toList) W2 (W3.setCell ⟨w1.heap.size, 0, none⟩ (.slice ao3 (pre.length + 1) cap3)) :=
        ((((Upd.refl _ W2).alloc _).trans (U3.out.mono (fun k hk => by simp at hk ⊢; exact .inr hk)))).setCell (.inl (by simp)) _
      have hsw := HU2.out.size
      have hlt2 := blk_lt H2.out
      have hn4 : ∀ q, (Value.slice ao3 (pre.length + 1) cap3).ownBlock = some q → w2.heap.size + 2 ≤ q := fun q hq => by
        rcases N3.out q hq with h | h
        · exact H4.out q h
        · omega
      refine ⟨Keeps.of_upd hU (fun q hq => ⟨fun hm => ?_, ?_⟩), ((KeepsWalks.alloc W2 _).trans (walks_updU U3.out (own_nowalkU (H3.out.alloc _)))).trans (KeepsWalks.setCell _ _ _), H1.out.trans_new hU (fun q hq => ?_), ND2.out, HK2.out, ao3, cap3, ?_, ?_, fun q hq => hn4 q (by simpa using hq)⟩
      · simp only [List.mem_cons, Option.mem_toList, List.not_mem_nil, or_false] at hq hm
        rcases hm with h5 | h5
        · omega
        · have := H4.out q h5
          omega
      · simp only [List.mem_cons, List.not_mem_nil, or_false] at hq
        omega
      · simp only [List.mem_cons, Option.mem_toList] at hq ⊢
        rcases hq with h5 | h5
        · exact .inr (by omega)
        · exact .inr (by have := H4.out q h5; omega)
      · have := blk_set (i := 0) B3.out (.slice ao3 (pre.length + 1) cap3)
        simpa using this
      · have h7 := ownsRow_setCell_other O3.out (a := ⟨w1.heap.size, 0, none⟩) (by
          intro h5
          have := hn4 w1.heap.size h5
          omega) (.slice ao3 (pre.length + 1) cap3)
        have e1 : (pre ++ [k]).map u32v = cur ++ [u32v k] := by rw [← HCUR.out]; simp
        rw [e1]
        simpa using h7
    case hdone =>
      rintro xs W hsp ⟨h1, hn, hk, ao1, cap1, h2, h3, h4⟩ hd
      have hpl := nodup_lenU hn hk
      have hx0 : xs ≠ [] := by
        rintro rfl
        obtain ⟨p, hp⟩ : ∃ p, m[0]? = some p := ⟨_, List.getElem?_eq_getElem (by omega)⟩
        have := (hsp.2 p.1).2 ⟨p.2, riseU_find HM.out.1 (List.mem_of_getElem? hp)⟩
        cases this
      have hc := blk_cell (i := 0) h2 rfl
      simp only [List.getElem_toArray, List.getElem_cons_zero] at hc
      have hso := So.sortU_any W h3 hx0 (by omega)
      have H1 := hide h1; have H2 := hide h2; have H4 := hide h4; have HD := hide hd; have HPL := hide hpl; have HSO := hide hso; have HSP := hide hsp
      have hsw := HU2.out.size
      have hzW := h1.size
      have hbxl := blk_lt HBX.out
      clear h1 hn hk h2 h3 h4 hd hpl hsp hso hx0
      go_wp2_with fail
      refine HSO.out.mono ?_
      rintro e w3 ⟨rfl, hu3, d, ho3, hdl, hdp, hds⟩
      have hks := keysU_sort HM.out.1 HSP.out.1 HSP.out.2 hdp hds
      subst hks
      have hne3 : w1.heap.size ∉ (Value.slice ao1 xs.length cap1).ownBlock.toList := fun hm => by
        have := H4.out w1.heap.size (by simpa using hm)
        omega
      have hb3 := hu3.get H2.out hne3
      have hc3 := blk_cell (i := 0) hb3 rfl
      simp only [List.getElem_toArray, List.getElem_cons_zero] at hc3
      rw [List.length_map] at hdl
      have hu3n : Upd [] w1 w3 := H1.out.trans_new hu3 (fun k hk => .inr (by have := H4.out k (by simpa using hk); omega))
      have G3 := hide (Grew.upd_nil G1.out hu3n); have ST3 := hide (ST1.out.upd_nil hu3n)
      have hz3 := hu3n.size
      have hD3 : w3.heap[w2.heap.size]? = some (.deferred (some [])) := hu3.get HD.out (fun hm => by have := H4.out _ (by simpa using hm); omega)
      have HD3 := hide hD3
      rw [List.length_map] at ho3
      obtain ⟨ao3, cap3, e3, hk1, hk2, hget⟩ := owns_slice ho3
      simp only [Value.slice.injEq] at e3
      obtain ⟨rfl, hxl, rfl⟩ := e3
      have hhm : xs.length = m.length := hxl
      rw [hhm] at hne3 hu3 hc3 ⊢
      have KSF := hide (show ∀ (j : Nat) (p : Nat × La) (wr : World), m[j]? = some p → Upd (Value.slice a1 B1.length c1).ownBlock.toList w3 wr → ∃ q, ao1 = some ⟨q, 0, none⟩ ∧ wr.cell? ⟨q, j, none⟩ = some (.int .u32 (p.1 : Int)) from fun j p wr hp hu => by
        obtain ⟨q, e1, hq1, hq2, hkc⟩ := hget j (So.enU p.1) (by rw [List.getElem?_map, List.getElem?_map, hp]; rfl)
        refine ⟨q, e1, ?_⟩
        obtain ⟨cs, ty, x, hb⟩ := cell_blkU hkc
        have h6 := H4.out q (by rw [e1]; rfl)
        have hb2 := hu.get hb (fun hm2 => by
          have h7 := (HB1.out q (by simpa using hm2)).2.2.2
          omega)
        simp only [World.cell?, hb] at hkc
        simp only [World.cell?, hb2]
        exact hkc)
      have GG : Hid (Grew w3 base (.slice a1 B1.length c1) B1 (.slice a1 B1.length c1) w3) := hide ⟨G3.out.own, Upd.refl _ _, fun g hg => .inl hg⟩
      clear hu3 hu3n hb3 hD3 hget ho3 hk1 hk2 hdp hds hdl hhm hxl hc HSP HSO H1 H2 HPL
      go_wp2_with fail
      go_loopw [1, 36] (fun sb si wr => ∃ (j : Nat) (B : List UInt8), j ≤ m.length ∧ si = .int .i64 j ∧ B = B1 ++ (m.take j).flatMap laB ∧ Grew w3 base (.slice a1 B1.length c1) B sb wr) (fun _ si _ => m.length - (RowKit.intOf si).toNat)
      case atStart => exact ⟨0, B1, by omega, rfl, by simp, GG.out⟩
      case round =>
        clear GG
        obtain ⟨j, B, hj, rfl, hB, hg⟩ := hrel
        obtain ⟨ab, cb, rfl, -, -, -⟩ := owns_slice hg.own
        have HG := hide hg; have HBB := hide hB
        have hstr := ST3.out.upd hg.upd (fun hm2 => (HB1.out b (by simpa using hm2)).1 rfl) (fun hm2 => (HB1.out c (by simpa using hm2)).2.2.1 rfl) (fun hm2 => (HB1.out g (by simpa using hm2)).2.1 rfl)
        have hzr := hg.upd.size
        have hbl : B.length ≤ 300000000 := by
          rw [hB, List.length_append]
          have h3 : ((m.take j).flatMap laB).length ≤ (m.flatMap laB).length := by
            conv => rhs; rw [← List.take_append_drop j m, List.flatMap_append, List.length_append]
            omega
          omega
        clear hg hB
        by_cases hlt : j < m.length
        · have d5 : decide ((j : Int) < m.length) = true := by simp; omega
          have d5' : decide (j < m.length) = true := by simpa using hlt
          obtain ⟨⟨ky, sq, cd, tx⟩, hp⟩ : ∃ p, m[j]? = some p := ⟨_, List.getElem?_eq_getElem hlt⟩
          obtain ⟨q, rfl, ck⟩ := KSF.out j _ wr hp HG.out.upd
          obtain ⟨p1, p2, p3, p4⟩ := HM.out.2.2 _ (List.mem_of_getElem? hp)
          have hfind : mfind m ky = some ⟨sq, ⟨cd, tx⟩⟩ := riseU_find HM.out.1 (List.mem_of_getElem? hp)
          have cb0 : wr.cell? ⟨b, 0, none⟩ = some (.pointer (some ⟨c, 0, none⟩)) := blk_cell hstr.blk rfl
          have cc0 : wr.cell? ⟨c, 0, none⟩ = some (.map (some g)) := blk_cell hstr.cli rfl
          have hlk := tb_look1 (k := ky) hstr.map p1
          rw [hfind] at hlk
          simp only [Option.getD_some, lastV] at hlk
          simp only at p1 p2 p3 p4 ck
          have HP := hide hp
          clear hp hfind
          go_upto_region 13 with fail
          have hx0 := blk_new wr (.cells #[.int .u32 (sq : Int), .int .u8 (cd : Int), .string (strOf tx)] 104)
          have hux := (Upd.refl [] wr).alloc (.cells #[.int .u32 (sq : Int), .int .u8 (cd : Int), .string (strOf tx)] 104)
          have hzx : (wr.alloc (.cells #[.int .u32 (sq : Int), .int .u8 (cd : Int), .string (strOf tx)] 104)).heap.size = wr.heap.size + 1 := by simp
          change Code.wp _ _ _ _ (wr.alloc (.cells #[.int .u32 (sq : Int), .int .u8 (cd : Int), .string (strOf tx)] 104))
          generalize wr.alloc (.cells #[.int .u32 (sq : Int), .int .u8 (cd : Int), .string (strOf tx)] 104) = wx at *
          have GX := hide (Grew.upd_nil HG.out hux)
          have HX0 := hide hx0
          have f1 : IntKind.u64.wrap (ky : Int) = (ky : Int) := IntWalk.u64_in _ (by omega)
          have f2 : IntKind.u64.wrap (sq : Int) = (sq : Int) := IntWalk.u64_in _ (by omega)
          have f3 : IntKind.u64.wrap (cd : Int) = (cd : Int) := IntWalk.u64_in _ (by omega)
          have hn4 : ((B ++ uv ky) ++ uv sq) ++ uv cd ++ txB tx = B1 ++ (m.take (j + 1)).flatMap laB := by
            rw [HBB.out, List.take_add_one, HP.out]
            simp [laB]
          have l1 := uv_len10 (n := ky) (by omega)
          have l2 := uv_len10 (n := sq) (by omega)
          have l3 := uv_len10 (n := cd) (by omega)
          obtain ⟨B2, hB2⟩ : ∃ x, B ++ uv ky = x := ⟨_, rfl⟩
          rw [hB2] at hn4
          obtain ⟨B3, hB3⟩ : ∃ x, B2 ++ uv sq = x := ⟨_, rfl⟩
          rw [hB3] at hn4
          obtain ⟨B4, hB4⟩ : ∃ x, B3 ++ uv cd = x := ⟨_, rfl⟩
          rw [hB4] at hn4
          obtain ⟨B5, hB5⟩ : ∃ x, B4 ++ txB tx = x := ⟨_, rfl⟩
          rw [hB5] at hn4
          have b2 : B2.length ≤ 300000010 := by rw [← hB2, List.length_append]; omega
          have b3 : B3.length ≤ 300000020 := by rw [← hB3, List.length_append]; omega
          have b4 : B4.length ≤ 300000030 := by rw [← hB4, List.length_append]; omega
          have K2 := hide hB2; have K3 := hide hB3; have K4 := hide hB4; have K5 := hide hB5; have HN := hide hn4
          have hxb := hide (show wr.heap.size ∉ (Value.slice a1 B1.length c1).ownBlock.toList from fun hm2 => by have := (HB1.out _ (by simpa using hm2)).2.2.2; omega)
          clear hB2 hB3 hB4 hB5 hn4 l1 l2 l3 hx0 hux hlk cb0 cc0 ck hstr
          refine wp_region_np ?_
          refine wp_region_z (fun wy => wy.heap[wr.heap.size]? = some (.cells #[.int .u32 (sq : Int), .int .u8 (cd : Int), .string (strOf tx)] 104 (0, 0))) 99 (by kernel_rfl) ?_
          have s0 : (wx.drewN 1).heap[wr.heap.size]? = some (.cells #[.int .u32 (sq : Int), .int .u8 (cd : Int), .string (strOf tx)] 104 (0, 0)) := HX0.out
          refine zE 0 rfl (by kernel_rfl) (fun _ _ _ _ h => h) rfl (by exact s0) ?_
          apply Exists.intro
          refine ⟨fun wx hS => ?_, ?_⟩
          · go_simp; rfl
          simp only [Act.put, List.setIfInBounds_toArray, List.set_cons_succ, List.set_cons_zero, List.getElem_toArray, List.getElem_cons_zero]
          refine zE 1 rfl (by kernel_rfl) (fun _ _ _ _ h => h) rfl (by exact s0) ?_
          apply Exists.intro
          refine ⟨fun wx hS => ?_, ?_⟩
          · go_simp; rfl
          simp only [Act.put, zz1, zz2, zz3, zz4, zz5, zz6]
          refine zE 2 rfl (by kernel_rfl) (fun _ _ _ _ h => h) rfl (by exact s0) ?_
          apply Exists.intro
          refine ⟨fun wx hS => ?_, ?_⟩
          · go_simp; rfl
          simp only [Act.put, zz1, zz2, zz3, zz4, zz5, zz6]
          refine zE 4 rfl (by kernel_rfl) (fun _ _ _ _ h => h) rfl (by exact s0) ?_
          apply Exists.intro
          refine ⟨fun wx hS => ?_, ?_⟩
          · go_simp; rfl
          simp only [Act.put, zz1, zz2, zz3, zz4, zz5, zz6]
          refine zE 8 rfl (by kernel_rfl) (fun _ _ _ _ h => h) rfl (by exact s0) ?_
          apply Exists.intro
          refine ⟨fun wx hS => ?_, ?_⟩
          · go_simp; rfl
          simp only [Act.put, zz1, zz2, zz3, zz4, zz5, zz6]
          refine zE 9 rfl (by kernel_rfl) (fun _ _ _ _ h => h) rfl (by exact s0) ?_
          apply Exists.intro
          refine ⟨fun wx hS => ?_, ?_⟩
          · go_simp; rfl
          simp only [Act.put, zz1, zz2, zz3, zz4, zz5, zz6]
          refine zE 5 rfl (by kernel_rfl) (fun _ _ _ _ h => h) rfl (by exact s0) ?_
          apply Exists.intro
          refine ⟨fun wx hS => ?_, ?_⟩
          · have c0 := blk_cell (i := 0) hS rfl; go_simp; rfl
          simp only [Act.put, zz1, zz2, zz3, zz4, zz5, zz6]
          refine zE 10 rfl (by kernel_rfl) (fun _ _ _ _ h => h) rfl (by exact s0) ?_
          apply Exists.intro
          refine ⟨fun wx hS => ?_, ?_⟩
          · have c0 := blk_cell (i := 1) hS rfl; go_simp; rfl
          simp only [Act.put, zz1, zz2, zz3, zz4, zz5, zz6]
          refine zE 6 rfl (by kernel_rfl) (fun _ _ _ _ h => h) rfl (by exact s0) ?_
          apply Exists.intro
          refine ⟨fun wx hS => ?_, ?_⟩
          · go_simp; rfl
          simp only [Act.put, zz1, zz2, zz3, zz4, zz5, zz6]
          refine zE 11 rfl (by kernel_rfl) (fun _ _ _ _ h => h) rfl (by exact s0) ?_
          apply Exists.intro
          refine ⟨fun wx hS => ?_, ?_⟩
          · go_simp; rfl
          simp only [Act.put, zz1, zz2, zz3, zz4, zz5, zz6]
          have hzd : (wx.drewN 1).heap.size = wx.heap.size := rfl
          refine wpAnyZ_one 3 (by kernel_rfl) rfl rfl (fun K hK => ?_)
          try simp only [List.getElem_toArray, List.getElem_cons_succ, List.getElem_cons_zero]
          go_simp
          refine (uint_any (base := base) (n := ky) (wx.drewN 1) (owns_upd GX.out.own ((Upd.refl [] wx).drewN 1) (by simp)) (by rw [hzd]; omega) (by omega) (by omega)).mono ?_
          rw [K2.out]
          rintro e w4 ⟨v4, rfl, h4⟩
          have g4 := Grew.trans (Grew.upd_nil GX.out ((Upd.refl [] wx).drewN 1)) h4 (by rw [hzd]; omega)
          obtain ⟨a4, c4, rfl, -, -, -⟩ := owns_slice g4.own
          have n0 : ∀ k, (Value.slice ab B.length cb).ownBlock = some k → k ≠ wr.heap.size := fun k hk => by have := owns_lt HG.out.own k hk; omega
          have s4 : w4.heap[wr.heap.size]? = some (.cells #[.int .u32 (sq : Int), .int .u8 (cd : Int), .string (strOf tx)] 104 (0, 0)) := h4.upd.get s0 (fun hm2 => n0 _ (by simpa using hm2) rfl)
          have n4 := hide (show ∀ k, (Value.slice a4 B2.length c4).ownBlock = some k → k ≠ wr.heap.size from fun k hk => by
            rcases h4.new k hk with h8 | h8
            · exact n0 k h8
            · rw [hzd] at h8; omega)
          have hz4 := h4.upd.size
          have G4 := hide g4; have S4 := hide s4
          clear h4 g4 n0
          refine hK _ _ (.inr s4) ?_
          clear hK K
          try simp only [Act.put, zz1, zz2, zz3]
          clear s0 s4
          refine wpAnyZ_one 7 (by kernel_rfl) rfl rfl (fun K hK => ?_)
          try simp only [List.getElem_toArray, List.getElem_cons_succ, List.getElem_cons_zero]
          go_simp
          refine (uint_any (base := base) (n := sq) w4 G4.out.own (by omega) (by omega) (by omega)).mono ?_
          rw [K3.out]
          rintro e w5 ⟨v5, rfl, h5⟩
          have g5 := Grew.trans G4.out h5 (by have := G4.out.upd.size; omega)
          obtain ⟨a5, c5, rfl, -, -, -⟩ := owns_slice g5.own
          have s5 : w5.heap[wr.heap.size]? = some (.cells #[.int .u32 (sq : Int), .int .u8 (cd : Int), .string (strOf tx)] 104 (0, 0)) := h5.upd.get S4.out (fun hm2 => n4.out _ (by simpa using hm2) rfl)
          have n5 := hide (show ∀ k, (Value.slice a5 B3.length c5).ownBlock = some k → k ≠ wr.heap.size from fun k hk => by
            rcases h5.new k hk with h8 | h8
            · exact n4.out k h8
            · rw [hzd] at hz4; omega)
          have hz5 := h5.upd.size
          have G5 := hide g5; have S5 := hide s5
          clear h5 g5 n4 S4
          refine hK _ _ (.inr s5) ?_
          clear hK K
          try simp only [Act.put, zz1, zz2, zz3]
          clear s5
          refine wpAnyZ_one 12 (by kernel_rfl) rfl rfl (fun K hK => ?_)
          try simp only [List.getElem_toArray, List.getElem_cons_succ, List.getElem_cons_zero]
          go_simp
          refine (uint_any (base := base) (n := cd) w5 G5.out.own (by rw [hzd] at hz4; omega) (by omega) (by omega)).mono ?_
          rw [K4.out]
          rintro e w6 ⟨v6, rfl, h6⟩
          have g6 := Grew.trans G5.out h6 (by have := G5.out.upd.size; omega)
          obtain ⟨a6, c6, rfl, -, -, -⟩ := owns_slice g6.own
          have s6 : w6.heap[wr.heap.size]? = some (.cells #[.int .u32 (sq : Int), .int .u8 (cd : Int), .string (strOf tx)] 104 (0, 0)) := h6.upd.get S5.out (fun hm2 => n5.out _ (by simpa using hm2) rfl)
          have hz6 := h6.upd.size
          have G6 := hide g6; have S6 := hide s6
          clear h6 g6 n5 S5
          refine hK _ _ (.inr s6) ?_
          clear hK K
          try simp only [Act.put, zz1, zz2, zz3]
          refine zE 13 rfl (by kernel_rfl) (fun _ _ _ _ h => h) rfl (by exact s6) ?_
          apply Exists.intro
          refine ⟨fun wx hS => ?_, ?_⟩
          · go_simp; rfl
          simp only [Act.put, zz1, zz2, zz3, zz4, zz5, zz6]
          refine wpAnyZ_done (by kernel_rfl) ?_ _
          clear s6
          have x2 := blk_cell (i := 2) S6.out rfl
          simp only [List.getElem_toArray, List.getElem_cons_succ, List.getElem_cons_zero] at x2
          dsimp only
          go_wp2_with fail
          refine (text_any (base := base) (bs := B4) (s := tx) w6 G6.out.own (by rw [hzd] at hz4; omega) (by omega) (by omega)).mono ?_
          rw [K5.out]
          rintro e w7 ⟨v7, rfl, h7⟩
          have g7 := Grew.trans G6.out h7 (by have := G6.out.upd.size; omega)
          have G7 := hide g7
          clear h7 g7 x2
          go_wp2_with fail
          go_roundw
          case rel => exact ⟨j + 1, B5, by omega, by go_num, HN.out, G7.out⟩
          case measure => simp [RowKit.intOf]; omega
        · have d5 : decide ((j : Int) < m.length) = false := by simp; omega
          have d5' : decide (j < m.length) = false := by simpa using hlt
          have hje : m.take j = m := List.take_of_length_le (by omega)
          rw [hje] at HBB
          have hb2 := HBB.out
          subst hb2
          have hD : wr.heap[w2.heap.size]? = some (.deferred (some [])) := HG.out.upd.get HD3.out (fun hm2 => by have := (HB1.out _ (by simpa using hm2)).2.2.2; omega)
          have HDW := hide hD
          clear hlt hje HBB hD hstr
          go_wp2_with fail
          refine leaves_one HDW.out (results_tmp rfl _ _ _) ⟨_, rfl, ?_⟩
          have hx := Grew.trans G3.out HG.out (by omega)
          have hd3 := blk_lt HD3.out
          refine ⟨owns_upd hx.own ((Upd.refl [w2.heap.size] wr).putObj (l := w2.heap.size) (.inl (by simp)) (.deferred none)) (fun k hk hm2 => ?_), hx.upd.putObj (.inr (by omega)) _, hx.new⟩
          rw [List.mem_singleton] at hm2
          subst hm2
          rcases HG.out.new _ hk with h8 | h8
          · have := (HB1.out _ h8).2.2.2; omega
          · omega
end Go.Proofs.YthpnnffogbjhpaaGreatDoor.Kv
