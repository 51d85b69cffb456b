/- The law StableKeeps: nothing that was synced is lost, nothing is mixed. -/
import Derived.Test.YtekbhfpdakhhkaaDoorStTw
import Derived.Test.YtekbhfpdakhhkaaDoorStWk
import Derived.BigQuiet
namespace Go.Proofs.YtekbhfpdakhhkaaDoor.St
set_option linter.unusedSimpArgs false
set_option linter.unusedVariables false
set_option linter.unnecessarySimpa false
open Go.RowKit Go.Lib Go.Proofs.YtekbhfpdakhhkaaDoor.Crc Go.Proofs.YtekbhfpdakhhkaaDoor.Var Go.Proofs.YtekbhfpdakhhkaaDoor.DiskW Go.Proofs.YtekbhfpdakhhkaaDoor.Rec Go.Proofs.YtekbhfpdakhhkaaDoor.Fr

theorem infoAct : (Tryd.prog.info? 38).map (fun i => (i.zero, i.size, i.bytes)) = some (some (.agg #[.int .u8 0, .int .i64 0, .int .u64 0, .int .u64 0, .int .i64 0, .slice none 0 0]), 6, 64) := by kernel_rfl
theorem partsI {p : Option TypeInfo} {z : Value} {a b : Nat} (h : p.map (fun i => (i.zero, i.size, i.bytes)) = some (some z, a, b)) : ∃ i, p = some i ∧ i.zero = some z ∧ i.size = a ∧ i.bytes = b := by
  cases p with
  | none => cases h
  | some i => simp only [Option.map_some, Option.some.injEq, Prod.mk.injEq] at h; exact ⟨i, rfl, h.1, h.2.1, h.2.2⟩
/-- Sync of a log. -/
theorem lsync_log {E : List Nat} {w0 w : World} {S L D g base q i : Nat} {recs : List (List UInt8)} {s : Sto} (h : LogS E w0 w S L D g base recs q s i) :
    Calls Tryd.prog 9 #[.pointer (some ⟨S, 0, none⟩)] w fun e w' => e = .returned (.int .i64 0) ∧ LogS E w0 w' S L D g base recs recs.length s i ∧ Turned D [] w w' := by
  obtain ⟨bv, so, sn, sc, hs⟩ := h.at_
  refine (ssync_any (i := i) w hs h.lt.2.2.2.2.2 h.hb).mono ?_
  rw [logD_sync]
  rintro e w' ⟨rfl, ⟨bv', hs'⟩, ht⟩
  exact ⟨rfl, ⟨⟨bv', so, sn, sc, hs'⟩, h.lt, Nat.le_trans h.hb ht.size, ht.far hs.dsk h.upd h.lt.2.2.2.2.1 h.lt.1 (by simp), h.tab, Nat.le_refl _, h.hl, h.hn, h.sto⟩, ht⟩
theorem Sets1.sync {w wr w1 : World} {l al : List A16} {S L D g i q : Nat} {v : Value} (h : Sets1 w l S L D g i al q v wr) {E : List Nat} (hF : ∀ b, v.ownBlock = some b → Foreign E wr S L D g b)
    (hl : LogS E w w1 S L D g w.heap.size ((al.map A16.set).map recB) ((al.map A16.set).map recB).length (runS (al.map A16.set) sto0) i) (ht : Turned D [] wr w1) : Sets1 w l S L D g i al al.length v w1 :=
  ⟨h.ok, h.len, Nat.le_refl _, h.mem, Own.turned (w0 := w) h.row ht (fun b hb => ⟨(hF b hb).2.1, by simp⟩), E, by simpa using hl, fun b hb => (hF b hb).turned ht (by simp)⟩
theorem LogS.more {E F : List Nat} {w0 w w1 : World} {S L D g base q i : Nat} {recs : List (List UInt8)} {s : Sto} (h : LogS E w0 w S L D g base recs q s i) (hu : Upd [] w w1) (hF : ∀ k ∈ F, w.heap.size ≤ k ∧ k < w1.heap.size) : LogS (F ++ E) w0 w1 S L D g base recs q s i ∧ ∀ k ∈ F, Foreign (F ++ E) w1 S L D g k := by
  obtain ⟨bv, so, sn, sc, ha⟩ := h.at_
  have hl := h.ltD
  exact ⟨h.next (h.upd.trans hu) hu.size ⟨bv, so, sn, sc, ha.more hu hF⟩, fun k hk => by
    obtain ⟨f1, f2⟩ := hF k hk
    exact ⟨by simp [hk], SafeB.fresh ha.dsk hu (by simp) f1 f2, by omega, by omega, by omega⟩⟩
/-- Told from an older world. -/
theorem LogS.old {E : List Nat} {w00 w0 w : World} {S L D g base q i : Nat} {recs : List (List UInt8)} {s : Sto} (h : LogS E w0 w S L D g base recs q s i) (hu : Upd [] w00 w0) (ht : TabAt w00) : LogS E w00 w S L D g base recs q s i :=
  ⟨h.at_, by have := hu.size; have := h.lt; omega, h.hb, hu.trans h.upd, ht, h.hq, h.hl, h.hn, h.sto⟩
theorem LogS.weak {E : List Nat} {w0 w : World} {S L D g base q i j : Nat} {recs : List (List UInt8)} {s : Sto} (h : LogS E w0 w S L D g base recs q s i) (hij : i ≤ j) : LogS E w0 w S L D g base recs q s j :=
  ⟨h.at_, h.lt, h.hb, h.upd, h.tab, h.hq, h.hl, Nat.le_trans h.hn hij, h.sto.mono hij⟩
/-- The blocks of a store, as a list. -/
theorem LogS.mine {E : List Nat} {w0 w : World} {S L D g base q i : Nat} {recs : List (List UInt8)} {s : Sto} (h : LogS E w0 w S L D g base recs q s i) (hw : w0.heap.size ≤ base) : ∃ F : List Nat, (∀ k, Mine w S L D g k → k ∈ F) ∧ ∀ k ∈ F, w0.heap.size ≤ k ∧ k < w.heap.size := by
  obtain ⟨bv, so, sn, sc, ha⟩ := h.at_
  obtain ⟨l1, l2, l3, l4⟩ := h.ltD
  have hlt := h.lt
  refine ⟨[D, S, L, g] ++ bv.ownBlock.toList, fun k hk => ?_, fun k hk => ?_⟩
  · rcases hk with e | e | e | e | e
    · simp [e]
    · simp [ha.dsk.ownAt.1 e]
    · simp [e]
    · simp [e]
    · simp [e]
  · simp only [List.cons_append, List.nil_append, List.mem_cons, Option.mem_toList, Option.mem_def] at hk
    rcases hk with e | e | e | e | e
    · omega
    · omega
    · omega
    · omega
    · have := owns_lt ha.dsk.row k e; omega
theorem LogS.apart {E : List Nat} {w0 w : World} {S L D g base q i : Nat} {recs : List (List UInt8)} {s : Sto} (h : LogS [] w0 w S L D g base recs q s i) (hv : s.votes = []) (hs : s.snap = []) (hE : ∀ k ∈ E, k < w.heap.size) : LogS E w0 w S L D g base recs q s i := by
  obtain ⟨bv, so, sn, sc, ha⟩ := h.at_
  exact h.next h.upd (Nat.le_refl _) ⟨bv, so, sn, sc, ha.apart hv hs hE⟩
/-- Two stores, the second one made behind the first one. -/
theorem twin_of {E' : List Nat} {w w1 w2 : World} {S L D g base q i : Nat} {recs : List (List UInt8)} {s : Sto} {S' L' D' g' base' q' i' : Nat} {recs' : List (List UInt8)} {s' : Sto} (h : LogS [] w w1 S L D g base recs q s i) (hu : Upd [] w1 w2)
    (h' : LogS E' w1 w2 S' L' D' g' base' recs' q' s' i') (hE : ∀ k, Mine w1 S L D g k → k ∈ E') : Twin w w2 S L D g base recs q s i S' L' D' g' base' recs' q' s' i' := by
  obtain ⟨F, hF1, hF2⟩ := h'.mine h'.lt.2.2.2.2.1
  obtain ⟨l1, l2, l3, l4⟩ := h.ltD
  obtain ⟨bv, so, sn, sc, ha⟩ := h.at_
  obtain ⟨bv', so', sn', sc', ha'⟩ := h'.at_
  obtain ⟨g1, g2⟩ := h.more (F := F) hu hF2
  refine ⟨⟨_, g1, fun k hk => g2 k (hF1 k hk)⟩, ⟨E', h'.old h.upd h.tab, fun k hk => ?_⟩⟩
  have hm := hk.nil hu l1
  have hlt := h'.lt
  have hk1 : k < w1.heap.size := by
    rcases hm with e | e | e | e | e
    · omega
    · exact (owns_lt ha.dsk.row k (ha.dsk.ownAt.1 e)).2
    · omega
    · omega
    · omega
  have hz := hu.size
  refine ⟨hE k hm, ⟨by omega, by omega, fun ho => ?_⟩, by omega, by omega, by omega⟩
  have := (owns_lt ha'.dsk.row k (ha'.dsk.ownAt.1 ho)).1
  omega
/-- What a set does to the first one of two. -/
theorem Twin.set {E E' : List Nat} {w0 w w1 : World} {S L D g base q i : Nat} {recs : List (List UInt8)} {s : Sto} {S' L' D' g' base' q' i' : Nat} {recs' : List (List UInt8)} {s' : Sto} {x : SetM} {e : Ending}
    (h1 : LogS E w0 w S L D g base recs q s i) (h2 : ∀ k, Mine w S' L' D' g' k → Foreign E w S L D g k) (h3 : LogS E' w0 w S' L' D' g' base' recs' q' s' i') (h4 : ∀ k, Mine w S L D g k → Foreign E' w S' L' D' g' k)
    (hs : LSet E w0 w S L D g base recs q s i x e w1) : e = .returned (.bool (decide (mayM s x = 0))) ∧ Twin w0 w1 S L D g base (logR recs s x) q (putM s x) (i + 1) S' L' D' g' base' recs' q' s' i' :=
  ⟨hs.1, Twin.step h1 h2 h3 h4 hs.2.1 hs.2.2⟩
/-- A disk that Open takes as it is. -/
structure Opens (d : DS) (s : Sto) : Prop where
  hall : (all (d.byt.take d.syn)).2.2 = 0
  hf : openS (recsD d) sto0 = some s
  hrl : ∀ x ∈ recsD d, x.length ≤ 1000
  hrn : (recsD d).length < 900
  ok : d.Ok 1000000000000
  dead : d.dead = false
theorem crash_plan {xs : List SetM} {q : Nat} {n : Int} (hok : okS xs sto0) (hq : q ≤ xs.length) (hb : ∀ x ∈ xs, x.bytes.length ≤ 200) (hl : xs.length ≤ 100) (h0 : 0 ≤ n) :
    ∃ m d1, q ≤ m ∧ m ≤ xs.length ∧ ((LogD (xs.map recB) q).crash n).1.restart = (d1, 0) ∧ Opens d1 (runS (xs.take m) sto0) ∧ cutD d1 = LogD ((xs.take m).map recB) m ∧
      Opens (LogD ((xs.take m).map recB) m) (runS (xs.take m) sto0) ∧ cutD (LogD ((xs.take m).map recB) m) = LogD ((xs.take m).map recB) m := by
  have hq' : q ≤ (xs.map recB).length := by simpa using hq
  have hfit := recs_fit hok
  have hsh := recs_short hok hb
  have hlen : (frs (xs.map recB)).length ≤ 1000000000000 := by have := frs_len (fun r hr => (hfit r hr).2) (by decide); simp at this; omega
  obtain ⟨p, hp1, hp2, hc1, hc2, -⟩ := logD_crash (recs := xs.map recB) (q := q) h0 hq'
  obtain ⟨m, m1, m2, o1, o2, o3⟩ := crash_open (fun r hr => (hfit r hr).1) hq' hp1 hp2
  have hm : m ≤ xs.length := by simpa using m2
  have hok2 := okS_take hok m
  have hfit2 := recs_fit hok2
  have htk : (xs.map recB).take m = (xs.take m).map recB := by rw [List.map_take]
  rw [htk] at o2 o3
  have hl2 : ((xs.take m).map recB).length = m := by simp; omega
  have hop : openS ((xs.take m).map recB) sto0 = some (runS (xs.take m) sto0) := openS_run hok2
  have hsh2 : ∀ x ∈ (xs.take m).map recB, x.length ≤ 1000 := fun x hx => by
    have := recs_short hok2 (fun y hy => hb y (List.mem_of_mem_take hy)) x hx
    omega
  have he2 : ends ((xs.take m).map recB) m ≤ (frs ((xs.take m).map recB)).length := ends_le (by omega)
  obtain ⟨m', n1, n2, r1, r2, r3⟩ := crash_open (recs := (xs.take m).map recB) (q := m) (p := (frs ((xs.take m).map recB)).length) (fun r hr => (hfit2 r hr).1) (by omega) he2 (Nat.le_refl _)
  obtain rfl : m' = m := by omega
  simp only [List.take_length] at r1 r2 r3
  have htt : ((xs.take m').map recB).take m' = (xs.take m').map recB := List.take_of_length_le (by omega)
  rw [htt] at r2 r3
  refine ⟨m', _, m1, hm, Prod.ext hc1 rfl, ⟨o1, by rw [o2]; exact hop, by rw [o2]; exact hsh2, by rw [o2]; omega, ⟨by show ends _ q ≤ ((frs (xs.map recB)).take p).length; rw [List.length_take]; omega, by show ((frs (xs.map recB)).take p).length ≤ _; rw [List.length_take]; omega, by simp, by simp⟩, rfl⟩, o3,
    ⟨r1, ?_, ?_, ?_, logD_ok (by omega) ?_, rfl⟩, r3⟩
  · change openS (recsD (LogD _ _)) _ = _ at *
    exact (congrArg (fun z => openS z sto0) r2).trans hop
  · intro x hx; exact hsh2 x (r2 ▸ hx)
  · have h9 := congrArg List.length r2
    exact h9 ▸ (by omega : ((xs.take m').map recB).length < 900)
  · have := frs_len (fun r hr => (hfit2 r hr).2) (by decide); omega
theorem sopen_of {D base : Nat} {bv : Value} {d : DS} {s : Sto} (w : World) (h : DiskAt w D base bv d) (hD : base ≤ D) (hb : base ≤ w.heap.size) (hst : TabAt w) (ho : Opens d s) :
    Calls Tryd.prog 15 #[.pointer (some ⟨D, 0, none⟩)] w (SOpen w D base d s) := sopen_on w h hD hb ho.ok ho.dead hst ho.hall ho.hf ho.hrl ho.hrn
set_option maxRecDepth 100000 in
set_option maxHeartbeats 8000000 in
theorem skeeps_any {v1 v2 : Value} {l more : List A16} {sy kp : Nat} (w : World) (hst : TabAt w) (h1 : Acts w w.heap.size v1 l) (h2 : Acts w w.heap.size v2 more) (hsy : sy < 256) (hkp : kp < 65536) :
    Calls Tryd.prog 3 #[v1, v2, .int .u8 (sy : Int), .int .u16 (kp : Int)] w fun e w' => e = .returned (.bool true) ∧ Upd [] w w' := by
  obtain ⟨lo, lc, rfl, hlc1, hlc2, hlg⟩ := act_get h1
  obtain ⟨mo, mc, rfl, hmc1, hmc2, hmg⟩ := act_get h2
  have HST := hide hst; have H1 := hide h1; have H2 := hide h2; have LGT := hide hlg; have MGT := hide hmg
  clear hst h1 h2 hlg hmg
  obtain ⟨ia, hia, ia0, ia1, ia2⟩ := partsI infoAct
  go_enter Tryd.func3, Tryd.ntmps3
  by_cases h1 : 40 < l.length
  · have q1 : decide ((l.length : Int) > 40) = true := by simp; omega
    have q2 : decide ((40 : Int) < (l.length : Int)) = true := by simp; omega
    clear h1
    go_wp2_with fail
    refine (wakes16_any w HST.out).mono ?_
    rintro e w1 ⟨rfl, hu⟩
    have U := hide hu
    clear hu
    go_wp2_with fail
    go_ret
    exact ⟨rfl, U.out⟩
  have q1 : decide ((l.length : Int) > 40) = false := by simp; omega
  have q2 : decide ((40 : Int) < (l.length : Int)) = false := by simp; omega
  by_cases h2 : 40 < more.length
  · have q3 : decide ((more.length : Int) > 40) = true := by simp; omega
    have q4 : decide ((40 : Int) < (more.length : Int)) = true := by simp; omega
    clear h1 h2
    go_wp2_with fail
    refine (wakes16_any w HST.out).mono ?_
    rintro e w1 ⟨rfl, hu⟩
    have U := hide hu
    clear hu
    go_wp2_with fail
    go_ret
    exact ⟨rfl, U.out⟩
  have q3 : decide ((more.length : Int) > 40) = false := by simp; omega
  have q4 : decide ((40 : Int) < (more.length : Int)) = false := by simp; omega
  have hl40 : l.length ≤ 40 := by omega
  have hm40 : more.length ≤ 40 := by omega
  clear h1 h2
  go_wp2_with fail
  refine (great_any16 w H1.out).mono ?_
  rintro e w1 ⟨rfl, rfl⟩
  obtain ⟨gr, hgr⟩ : ∃ gr, greatM l = gr := ⟨_, rfl⟩
  rw [hgr]
  cases gr
  case true =>
    clear hgr
    go_wp2_with fail
    refine (wakes16_any w HST.out).mono ?_
    rintro e w1 ⟨rfl, hu⟩
    have U := hide hu
    clear hu
    go_wp2_with fail
    go_ret
    exact ⟨rfl, U.out⟩
  case false =>
  have GL := hide (great_no hgr)
  clear hgr
  go_wp2_with fail
  refine (great_any16 w H2.out).mono ?_
  rintro e w1 ⟨rfl, rfl⟩
  obtain ⟨gr, hgr⟩ : ∃ gr, greatM more = gr := ⟨_, rfl⟩
  rw [hgr]
  cases gr
  case true =>
    clear hgr
    go_wp2_with fail
    refine (wakes16_any w HST.out).mono ?_
    rintro e w1 ⟨rfl, hu⟩
    have U := hide hu
    clear hu
    go_wp2_with fail
    go_ret
    exact ⟨rfl, U.out⟩
  case false =>
  have GM := hide (great_no hgr)
  clear hgr
  go_wp2_with fail
  refine (fresh_any w HST.out).mono ?_
  rintro e w1 ⟨S, L, D, g, rfl, hf⟩
  have F := hide (hf.log HST.out)
  clear hf q1 q2 q3 q4
  go_wp2_with fail
  go_loopw [11, 12, 13, 14] (fun s11 s12 s13 si wr => ∃ (i : Nat) (al : List A16) (q : Nat), i ≤ l.length ∧ s11 = .int .i64 (q : Int) ∧ s12 = .int .i64 (al.length : Int) ∧ si = .int .i64 i ∧ Sets1 w l S L D g i al q s13 wr) (fun _ _ _ si _ => l.length - (intOf si).toNat)
  case atStart => exact ⟨0, [], 0, by omega, rfl, rfl, rfl, ⟨trivial, Nat.le_refl _, Nat.le_refl _, by simp, Own.nil _ _ _ _ _, [], F.out, fun b hb => by cases hb⟩⟩
  case round =>
    obtain ⟨i, al, q, hi, rfl, rfl, rfl, hs1⟩ := hrel
    have S1 := hide hs1
    have hal := hs1.len
    clear hs1
    by_cases hlt : i < l.length
    · have d5 : decide ((i : Int) < (l.length : Int)) = true := by simp; omega
      have d5' : decide (i < l.length) = true := by simpa using hlt
      obtain ⟨bq, hbq⟩ : ∃ bq, ((i : Int) == (sy : Int) % ((l.length : Int) + 1)) = bq := ⟨_, rfl⟩
      cases bq
      · obtain ⟨a, ha⟩ : ∃ a, l[i]? = some a := ⟨l[i], List.getElem?_eq_getElem hlt⟩
        obtain ⟨E, hlg, hF⟩ := S1.out.log
        obtain ⟨b, off, yo, yn, yc, rfl, hb, hin, hok, c0, c1, c2, c3, c4, c5⟩ := LGT.out i a ha
        obtain ⟨bv, so, sn, sc, hst⟩ := hlg.at_
        have hal' := GL.out.2 a (List.mem_of_getElem? ha)
        have hset := lset_log (i := i) hlg (by omega) a hok (by omega) yo yn yc ((hin.upd hlg.upd (by simp)).lies hst.dsk hlg.upd.size hlg.lt.1 hlg.lt.2.2.2.2.1 (by have := hlg.lt; simp; omega))
        have C0 := hide c0; have C1 := hide c1; have C2 := hide c2; have C3 := hide c3; have C4 := hide c4; have C5 := hide c5; have HSET := hide hset; have HF := hide hF; have HLG := hide hlg; have HOK := hide hok; have HA := hide ha; have HAL := hide hal'; have HIN := hide hin; have HB := hide hb
        have k0 := Rec.cell_keep HLG.out.upd C0.out (by simp)
        have k1 := Rec.cell_keep HLG.out.upd C1.out (by simp)
        have k2 := Rec.cell_keep HLG.out.upd C2.out (by simp)
        have k3 := Rec.cell_keep HLG.out.upd C3.out (by simp)
        have k4 := Rec.cell_keep HLG.out.upd C4.out (by simp)
        have k5 := Rec.cell_keep HLG.out.upd C5.out (by simp)
        clear c0 c1 c2 c3 c4 c5 hset hF hlg hok ha hal' hin hb hst
        go_wp2_with fail
        refine HSET.out.mono ?_
        intro e w2 hs2
        obtain ⟨rfl, hrow, hF1, hno, hyes⟩ := S1.out.set HF.out (List.mem_of_getElem? HA.out) HOK.out (by have := HAL.out; omega) hs2
        obtain ⟨dn, hdn⟩ : ∃ dn, decide (mayM (runS (al.map A16.set) sto0) a.set = 0) = dn := ⟨_, rfl⟩
        rw [hdn]
        clear k0 k1 k2 k3 k4 k5 HSET
        cases dn
        · have hs3 := hno (by simpa using hdn)
          have HS3 := hide hs3
          clear hno hyes hdn hrow hF1 hs2 hs3
          go_wp2_with fail
          go_roundw
          case rel => exact ⟨i + 1, al, _, by omega, rfl, rfl, by go_num, HS3.out⟩
          case measure => simp [intOf]; omega
        · obtain ⟨hok2, hlg2⟩ := hyes (by simpa using hdn)
          have hu2 := hlg2.upd
          have k0 := Rec.cell_keep hu2 C0.out (by simp)
          have k1 := Rec.cell_keep hu2 C1.out (by simp)
          have k2 := Rec.cell_keep hu2 C2.out (by simp)
          have k3 := Rec.cell_keep hu2 C3.out (by simp)
          have k4 := Rec.cell_keep hu2 C4.out (by simp)
          have k5 := Rec.cell_keep hu2 C5.out (by simp)
          obtain ⟨css, hcss, hc6, hown⟩ := hrow
          have hra : Upd [] w2 (w2.alloc (.cells (actC a (.slice yo yn yc)).toArray 38)) := (Upd.refl [] w2).alloc _
          have hown2 := owns_upd hown hra (by simp)
          have hcl := hcss.len
          have HROW := hide hown2; have HCSS := hide hcss; have HC6 := hide hc6; have HOK2 := hide hok2; have HLG2 := hide hlg2; have HF1 := hide hF1; have HRA := hide hra; have HOWN := hide hown
          have hz2 := hu2.size
          clear hno hyes hdn hF1 hs2 hcss hc6 hown hown2 hok2 hlg2 hra hu2
          go_wp2_with (at_builtin; go_must (refine wpList_append_src _ rfl _ _ 22 rfl w.heap.size 38 ia (.agg #[.int .u8 0, .int .i64 0, .int .u64 0, .int .u64 0, .int .i64 0, .slice none 0 0]) 6 64 Tryd.underlying22 hia ia0 ia1 ia2 rfl (by decide) u13 al.length css.flatten rfl HROW.out (some ⟨w2.heap.size, 0, none⟩) 1 1 (actC a (.slice yo yn yc)) rfl (src_row (blk_new _ _) rfl (by intro u hu; simp only [List.mem_cons, List.not_mem_nil, or_false] at hu; rcases hu with rfl | rfl | rfl | rfl | rfl | rfl <;> rfl)) (by unfold maxLen; omega) (by omega) (by simp; omega) ?_))
          intro ao6 cap6 w6 hown6 hU6 hn6
          obtain ⟨E6, hlg6, hF6⟩ := (HLG2.out.upd_nil HRA.out).beside (v' := .slice ao6 (al.length + 1) cap6) (fun b hb => (HF1.out b hb).nil HRA.out HLG2.out.ltD.1) (fun b hb => (owns_lt HOWN.out b hb).1) hU6 (fun g hg => by simpa using hn6 g hg) (fun g hg => (owns_lt hown6 g hg).2)
          have hs6 : Sets1 w l S L D g (i + 1) (al ++ [a]) _ (.slice ao6 (al.length + 1) cap6) w6 := ⟨HOK2.out, by simp; omega, by have := S1.out.hq; simp only [List.length_append, List.length_singleton]; omega, fun x hx => by
              rcases List.mem_append.1 hx with h | h
              · exact S1.out.mem x h
              · simp only [List.mem_singleton] at h; subst h; exact List.mem_of_getElem? HA.out,
            Own.more HCSS.out HC6.out ⟨yo, yn, yc, rfl, HIN.out, HOK.out⟩ rfl (by intro u hu; simp only [List.mem_cons, List.not_mem_nil, or_false] at hu; rcases hu with rfl | rfl | rfl | rfl | rfl | rfl <;> rfl) rfl hown6, E6, hlg6, hF6⟩
          have HS6 := hide hs6
          clear hown6 hU6 hn6 hlg6 hF6 hs6 k0 k1 k2 k3 k4 k5
          go_wp2_with fail
          go_roundw
          case rel => exact ⟨i + 1, al ++ [a], _, by omega, rfl, by simp, by go_num, HS6.out⟩
          case measure => simp [intOf]; omega
      · obtain ⟨E0, hlg0, hF0⟩ := S1.out.log
        have HLG0 := hide hlg0; have HF0 := hide hF0
        clear hlg0 hF0
        go_wp2_with fail
        refine (lsync_log HLG0.out).mono ?_
        rintro e wr ⟨rfl, hl0, ht0⟩
        have S1 := hide (S1.out.sync HF0.out hl0 ht0)
        clear hl0 ht0 HLG0 HF0
        obtain ⟨a, ha⟩ : ∃ a, l[i]? = some a := ⟨l[i], List.getElem?_eq_getElem hlt⟩
        obtain ⟨E, hlg, hF⟩ := S1.out.log
        obtain ⟨b, off, yo, yn, yc, rfl, hb, hin, hok, c0, c1, c2, c3, c4, c5⟩ := LGT.out i a ha
        obtain ⟨bv, so, sn, sc, hst⟩ := hlg.at_
        have hal' := GL.out.2 a (List.mem_of_getElem? ha)
        have hset := lset_log (i := i) hlg (by omega) a hok (by omega) yo yn yc ((hin.upd hlg.upd (by simp)).lies hst.dsk hlg.upd.size hlg.lt.1 hlg.lt.2.2.2.2.1 (by have := hlg.lt; simp; omega))
        have C0 := hide c0; have C1 := hide c1; have C2 := hide c2; have C3 := hide c3; have C4 := hide c4; have C5 := hide c5; have HSET := hide hset; have HF := hide hF; have HLG := hide hlg; have HOK := hide hok; have HA := hide ha; have HAL := hide hal'; have HIN := hide hin; have HB := hide hb
        have k0 := Rec.cell_keep HLG.out.upd C0.out (by simp)
        have k1 := Rec.cell_keep HLG.out.upd C1.out (by simp)
        have k2 := Rec.cell_keep HLG.out.upd C2.out (by simp)
        have k3 := Rec.cell_keep HLG.out.upd C3.out (by simp)
        have k4 := Rec.cell_keep HLG.out.upd C4.out (by simp)
        have k5 := Rec.cell_keep HLG.out.upd C5.out (by simp)
        clear c0 c1 c2 c3 c4 c5 hset hF hlg hok ha hal' hin hb hst
        go_wp2_with fail
        refine HSET.out.mono ?_
        intro e w2 hs2
        obtain ⟨rfl, hrow, hF1, hno, hyes⟩ := S1.out.set HF.out (List.mem_of_getElem? HA.out) HOK.out (by have := HAL.out; omega) hs2
        obtain ⟨dn, hdn⟩ : ∃ dn, decide (mayM (runS (al.map A16.set) sto0) a.set = 0) = dn := ⟨_, rfl⟩
        rw [hdn]
        clear k0 k1 k2 k3 k4 k5 HSET
        cases dn
        · have hs3 := hno (by simpa using hdn)
          have HS3 := hide hs3
          clear hno hyes hdn hrow hF1 hs2 hs3
          go_wp2_with fail
          go_roundw
          case rel => exact ⟨i + 1, al, _, by omega, rfl, rfl, by go_num, HS3.out⟩
          case measure => simp [intOf]; omega
        · obtain ⟨hok2, hlg2⟩ := hyes (by simpa using hdn)
          have hu2 := hlg2.upd
          have k0 := Rec.cell_keep hu2 C0.out (by simp)
          have k1 := Rec.cell_keep hu2 C1.out (by simp)
          have k2 := Rec.cell_keep hu2 C2.out (by simp)
          have k3 := Rec.cell_keep hu2 C3.out (by simp)
          have k4 := Rec.cell_keep hu2 C4.out (by simp)
          have k5 := Rec.cell_keep hu2 C5.out (by simp)
          obtain ⟨css, hcss, hc6, hown⟩ := hrow
          have hra : Upd [] w2 (w2.alloc (.cells (actC a (.slice yo yn yc)).toArray 38)) := (Upd.refl [] w2).alloc _
          have hown2 := owns_upd hown hra (by simp)
          have hcl := hcss.len
          have HROW := hide hown2; have HCSS := hide hcss; have HC6 := hide hc6; have HOK2 := hide hok2; have HLG2 := hide hlg2; have HF1 := hide hF1; have HRA := hide hra; have HOWN := hide hown
          have hz2 := hu2.size
          clear hno hyes hdn hF1 hs2 hcss hc6 hown hown2 hok2 hlg2 hra hu2
          go_wp2_with (at_builtin; go_must (refine wpList_append_src _ rfl _ _ 22 rfl w.heap.size 38 ia (.agg #[.int .u8 0, .int .i64 0, .int .u64 0, .int .u64 0, .int .i64 0, .slice none 0 0]) 6 64 Tryd.underlying22 hia ia0 ia1 ia2 rfl (by decide) u13 al.length css.flatten rfl HROW.out (some ⟨w2.heap.size, 0, none⟩) 1 1 (actC a (.slice yo yn yc)) rfl (src_row (blk_new _ _) rfl (by intro u hu; simp only [List.mem_cons, List.not_mem_nil, or_false] at hu; rcases hu with rfl | rfl | rfl | rfl | rfl | rfl <;> rfl)) (by unfold maxLen; omega) (by omega) (by simp; omega) ?_))
          intro ao6 cap6 w6 hown6 hU6 hn6
          obtain ⟨E6, hlg6, hF6⟩ := (HLG2.out.upd_nil HRA.out).beside (v' := .slice ao6 (al.length + 1) cap6) (fun b hb => (HF1.out b hb).nil HRA.out HLG2.out.ltD.1) (fun b hb => (owns_lt HOWN.out b hb).1) hU6 (fun g hg => by simpa using hn6 g hg) (fun g hg => (owns_lt hown6 g hg).2)
          have hs6 : Sets1 w l S L D g (i + 1) (al ++ [a]) _ (.slice ao6 (al.length + 1) cap6) w6 := ⟨HOK2.out, by simp; omega, by have := S1.out.hq; simp only [List.length_append, List.length_singleton]; omega, fun x hx => by
              rcases List.mem_append.1 hx with h | h
              · exact S1.out.mem x h
              · simp only [List.mem_singleton] at h; subst h; exact List.mem_of_getElem? HA.out,
            Own.more HCSS.out HC6.out ⟨yo, yn, yc, rfl, HIN.out, HOK.out⟩ rfl (by intro u hu; simp only [List.mem_cons, List.not_mem_nil, or_false] at hu; rcases hu with rfl | rfl | rfl | rfl | rfl | rfl <;> rfl) rfl hown6, E6, hlg6, hF6⟩
          have HS6 := hide hs6
          clear hown6 hU6 hn6 hlg6 hF6 hs6 k0 k1 k2 k3 k4 k5
          go_wp2_with fail
          go_roundw
          case rel => exact ⟨i + 1, al ++ [a], _, by omega, rfl, by simp, by go_num, HS6.out⟩
          case measure => simp [intOf]; omega
    · have hil : i = l.length := by omega
      have d5 : decide ((i : Int) < (l.length : Int)) = false := by simp; omega
      have d5' : decide (i < l.length) = false := by simpa using hlt
      clear hlt
      obtain ⟨E, hlg, hF⟩ := S1.out.log
      have hqa := S1.out.hq
      have hok := S1.out.ok
      obtain ⟨xs, hxs⟩ : ∃ xs, al.map A16.set = xs := ⟨_, rfl⟩
      have hxl : xs.length = al.length := by rw [← hxs]; simp
      have hxb : ∀ x ∈ xs, x.bytes.length ≤ 200 := fun x hx => by
        rw [← hxs] at hx
        obtain ⟨a, ha, rfl⟩ := List.mem_map.1 hx
        have := GL.out.2 a (S1.out.mem a ha)
        have := a.bytes_le
        omega
      rw [hxs] at hlg hok
      have hdok := (hlg.ready (by omega)).ok
      obtain ⟨bv, so, sn, sc, hst⟩ := hlg.at_
      have hfr : ∀ b, u13.ownBlock = some b → SafeB wr D b := fun b hb => (hF b hb).2.1
      obtain ⟨dd, hdd⟩ : ∃ dd, LogD (xs.map recB) q = dd := ⟨_, rfl⟩
      rw [hdd] at hst hdok
      have hlt5 := hlg.lt
      have hbw := hlg.hb
      have ROW := hide S1.out.row; have XM := hide S1.out.mem
      have ST := hide hst; have XS := hide hxs; have XL := hide hxl; have XB := hide hxb; have OKX := hide hok; have DD := hide hdd; have DOK := hide hdok; have FR := hide hfr; have UWR := hide hlg.upd
      clear hst hxs hxb hok hdd hdok hfr hF hlg hxl S1
      go_wp2_with fail
      refine (bytes_any wr ST.out.dsk hbw DOK.out.len).mono ?_
      rintro e w2 ⟨v, rfl, hv, hu2⟩
      obtain ⟨vo, vc, rfl, -, -, -⟩ := owns_slice hv
      have U2 := hide hu2
      clear hv hu2
      go_wp2_with fail
      refine (synced_any w2 (ST.out.upd_nil U2.out).dsk).mono ?_
      rintro e w' ⟨rfl, rfl⟩
      have hsy2 := DOK.out.syn
      obtain ⟨A, hA⟩ : ∃ A, dd.byt.length = A := ⟨_, rfl⟩
      obtain ⟨B, hB⟩ : ∃ B, dd.syn = B := ⟨_, rfl⟩
      have hAm := DOK.out.len
      rw [hA] at hsy2 hAm ⊢
      rw [hB] at hsy2 ⊢
      obtain ⟨n, hn⟩ : ∃ n, (kp : Int) % ((A : Int) - (B : Int) + 1) = n := ⟨_, rfl⟩
      have hn0 : 0 ≤ n := by rw [← hn]; exact Int.emod_nonneg _ (by omega)
      have HN := hide hn0
      clear hA hB
      go_wp2_with fail
      try rw [hn]
      refine (crash_any (n := n) w2 (ST.out.upd_nil U2.out).dsk DOK.out hlt5.2.2.2.2.2 (by have := U2.out.size; omega)).mono ?_
      rintro e w3 ⟨v, rfl, rfl, bv3, hd3, -, hn3⟩
      obtain ⟨m, d1, hm1, hm2, hcr, hop1, hct1, hop2, hct2⟩ := crash_plan OKX.out (by have := XL.out; omega : q ≤ xs.length) XB.out (by have := XL.out; omega) HN.out
      rw [DD.out] at hcr
      have D3 := hide hd3; have N3 := hide hn3; have CR := hide hcr; have OP1 := hide hop1; have CT1 := hide hct1; have OP2 := hide hop2; have CT2 := hide hct2
      have TD3 := hide ((Turned.of_near (X := []) hn3))
      clear hd3 hn3 hcr hop1 hct1 hop2 hct2 hn
      have hsz2 := U2.out.size
      have hsz3 := N3.out.size
      have hbw3 : w.heap.size ≤ w3.heap.size := by omega
      go_wp2_with fail
      refine (restart_any w3 D3.out hlt5.2.2.2.2.2 hbw3).mono ?_
      rw [CR.out]
      rintro e w4 ⟨v, rfl, rfl, bv4, hd4, -, hn4⟩
      have D4 := hide hd4; have N4 := hide hn4
      have U3 := hide (TD3.out.far (ST.out.upd_nil U2.out).dsk (UWR.out.trans U2.out) (Nat.le_refl _) hlt5.1 (by simp))
      have U4 := hide ((Turned.of_near (X := []) hn4).far D3.out U3.out (Nat.le_refl _) hlt5.1 (by simp))
      have ROW2 := hide (Own.upd ROW.out U2.out (by simp) (fun _ _ _ h => h))
      have FR2 := hide (fun b hb => (FR.out b hb).upd U2.out (blk_lt ST.out.dsk.hD) (by simp))
      have ROW3 := hide (Own.turned (w0 := w) ROW2.out TD3.out (fun b hb => ⟨FR2.out b hb, by simp⟩))
      have FR3 := hide (fun b hb => ((FR2.out b hb).near N3.out).1)
      have ROW4 := hide (Own.turned (w0 := w) ROW3.out (Turned.of_near (X := []) hn4) (fun b hb => ⟨FR3.out b hb, by simp⟩))
      have FR4 := hide (fun b hb => ((FR3.out b hb).near hn4).1)
      have hsz4 := hn4.size
      clear hd4 hn4 CR D3 N3 TD3 ROW ROW2 ROW3 FR FR2 FR3 U3
      go_wp2_with fail
      refine (sopen_of w4 D4.out hlt5.2.2.2.2.2 (by omega) (HST.out.upd U4.out (by simp)) OP1.out).mono ?_
      rintro e w5 ⟨Sa, La, ga, soa, sna, sca, bva, rfl, hsta, hSa, hLa, hga, hn5⟩
      rw [CT1.out] at hsta
      have STA := hide hsta; have N5 := hide hn5
      have U5 := hide ((Turned.of_near (X := []) hn5).far D4.out U4.out (Nat.le_refl _) hlt5.1 (by simp))
      have ROW5 := hide (Own.turned (w0 := w) ROW4.out (Turned.of_near (X := []) hn5) (fun b hb => ⟨FR4.out b hb, by simp⟩))
      have FR5 := hide (fun b hb => ((FR4.out b hb).near hn5).1)
      have hsz5 := hn5.size
      clear hsta hn5 D4 N4 ROW4 FR4 OP1 CT1
      go_wp2_with fail
      refine (sopen_of w5 STA.out.dsk hlt5.2.2.2.2.2 (by omega) (HST.out.upd U5.out (by simp)) OP2.out).mono ?_
      rintro e w6 ⟨Sb, Lb, gb, sob, snb, scb, bvb, rfl, hstb, hSb, hLb, hgb, hn6⟩
      rw [CT2.out] at hstb
      have hsta6 := STA.out.near hn6 hstb.dsk
      have U6 := hide ((Turned.of_near (X := []) hn6).far STA.out.dsk U5.out (Nat.le_refl _) hlt5.1 (by simp))
      have ROW6 := hide (Own.turned (w0 := w) ROW5.out (Turned.of_near (X := []) hn6) (fun b hb => ⟨FR5.out b hb, by simp⟩))
      have hsz6 := hn6.size
      have hstm : StoOk (runS (xs.take m) sto0) 40 := (okS_sto (okS_take OKX.out m) StoOk.zero).mono (by have := XL.out; simp; omega)
      have hrl : ∀ r ∈ (xs.take m).map recB, r.length ≤ 2000 := fun r hr => (recs_fit (okS_take OKX.out m) r hr).2
      have hLA : LogS [] w w6 Sa La D ga w.heap.size ((xs.take m).map recB) m (runS (xs.take m) sto0) 40 := ⟨⟨_, _, _, _, hsta6⟩, by omega, by omega, U6.out, HST.out, by simp; omega, hrl, by have := XL.out; simp; omega, hstm⟩
      have hLB : LogS [] w w6 Sb Lb D gb w.heap.size ((xs.take m).map recB) m (runS (xs.take m) sto0) 40 := ⟨⟨_, _, _, _, hstb⟩, by omega, by omega, U6.out, HST.out, by simp; omega, hrl, by have := XL.out; simp; omega, hstm⟩
      have LA := hide hLA; have LB := hide hLB; have SA6 := hide hsta6; have SB6 := hide hstb; have SM := hide hstm
      clear hsta6 hstb hstm hrl hLA hLB hn6 ROW5 FR5 STA N5 OP2 CT2
      go_wp2_with fail
      refine (alike_any w6 SA6.out SB6.out SM.out SM.out (by omega) (by omega)).mono ?_
      rintro e w7 ⟨r, rfl, hr, hu7⟩
      obtain rfl : r = true := hr.2 rfl
      have LA7 := hide (LA.out.upd_nil hu7); have LB7 := hide (LB.out.upd_nil hu7)
      have ROW7 := hide (Own.upd ROW6.out hu7 (by simp) (fun _ _ _ h => h))
      have hma : m ≤ al.length := by have := XL.out; omega
      clear hr hu7 LA LB SA6 SB6 ROW6
      go_wp2_with fail
      go_loopw [20] (fun sn wr => ∃ n : Nat, n ≤ m ∧ sn = .int .i64 n ∧ Upd [] w7 wr) (fun sn _ => m + 1 - (intOf sn).toNat)
      case atStart => exact ⟨q, hm1, rfl, Upd.refl _ _⟩
      case round =>
        obtain ⟨n, hn, rfl, hu⟩ := hrel
        rename World => w8
        have U8 := hide hu
        clear hu
        have d5 : decide ((n : Int) ≤ (al.length : Int)) = true := by simp; omega
        have d5' : decide (n ≤ al.length) = true := by simp; omega
        obtain ⟨FB, hFB1, hFB2⟩ := (LB7.out.upd_nil U8.out).mine (Nat.le_refl _)
        have htab8 : TabAt w8 := HST.out.upd ((LB7.out.upd.trans U8.out)) (by simp)
        have FB1 := hide hFB1; have FB2 := hide hFB2
        clear hFB1 hFB2
        go_wp2_with fail
        refine (fresh_any w8 htab8).mono ?_
        rintro e w9 ⟨S', L', D', g', rfl, hf⟩
        have hl9 := ((hf.log htab8).apart (E := FB) rfl rfl (fun k hk => by have := (FB2.out k hk).2; have := hf.upd.size; omega))
        have L9 := hide hl9
        clear hf hl9
        go_wp2_with fail
        go_loopw [23] (fun si wr => ∃ i : Nat, i ≤ n ∧ si = .int .i64 i ∧ LogS FB w8 wr S' L' D' g' w8.heap.size ((xs.take i).map recB) 0 (runS (xs.take i) sto0) i) (fun si _ => n - (intOf si).toNat)
        case atStart => exact ⟨0, by omega, rfl, L9.out⟩
        case round =>
          obtain ⟨i, hi, rfl, hl10⟩ := hrel
          rename World => w10
          have L10 := hide hl10
          clear hl10
          by_cases hin : i < n
          · have e5 : decide ((i : Int) < (n : Int)) = true := by simp; omega
            have e5' : decide (i < n) = true := by simpa using hin
            have hia : i < al.length := by omega
            obtain ⟨a, ha⟩ : ∃ a, al[i]? = some a := ⟨al[i], List.getElem?_eq_getElem hia⟩
            have hrow := Own.row (Own.upd ROW7.out (U8.out.trans L10.out.upd) (by simp) (fun _ _ _ h => h))
            obtain ⟨bo, bc, rfl, hbc1, hbc2, hbg⟩ := Row.get (by decide) hrow
            obtain ⟨b, off, cs, rfl, hb, hT, ⟨yo, yn, yc, rfl, hinT, hokA⟩, -, hcell⟩ := hbg i a ha
            have U10 := hide ((LB7.out.upd.trans U8.out).trans L10.out.upd)
            have hal2 := GL.out.2 a (XM.out a (List.mem_of_getElem? ha))
            obtain ⟨bvq, soq, snq, scq, hstq⟩ := L10.out.at_
            have hltq := L10.out.lt
            have hwz := (LB7.out.upd.trans U8.out).size
            have hset := lset_log (i := i) L10.out (by omega) a hokA (by omega) yo yn yc ((hinT.upd U10.out (by simp)).lies hstq.dsk U10.out.size (by omega) (by omega) (by simp; omega))
            have HSET := hide hset
            have hxa : xs[i]? = some a.set := by rw [← XS.out, List.getElem?_map, ha]; rfl
            have hil : i < xs.length := by have := XL.out; omega
            obtain ⟨hp1, hp2, hp3⟩ := okS_get OKX.out hil
            have hxe : xs[i] = a.set := by rw [List.getElem?_eq_getElem hil] at hxa; exact Option.some.inj hxa
            rw [hxe] at hp1 hp2 hp3
            have htk : (xs.take (i + 1)).map recB = logR ((xs.take i).map recB) (runS (xs.take i) sto0) a.set := by
              unfold logR
              rw [if_pos hp2, List.take_succ_eq_append_getElem hil, List.map_append, hxe]
              rfl
            have hpt : runS (xs.take (i + 1)) sto0 = putM (runS (xs.take i) sto0) a.set := by
              unfold putM
              rw [if_pos hp2, hp3]
            have HP2 := hide (decide_eq_true hp2); have HTK := hide htk; have HPT := hide hpt
            have c0 : w10.cell? ⟨b, off + i * 6, none⟩ = some (.int .u8 (a.k : Int)) := hcell 0 _ rfl
            have c1 : w10.cell? ⟨b, off + i * 6 + 1, none⟩ = some (.int .i64 a.N) := hcell 1 _ rfl
            have c2 : w10.cell? ⟨b, off + i * 6 + 2, none⟩ = some (.int .u64 (a.slot : Int)) := hcell 2 _ rfl
            have c3 : w10.cell? ⟨b, off + i * 6 + 3, none⟩ = some (.int .u64 (a.n : Int)) := hcell 3 _ rfl
            have c4 : w10.cell? ⟨b, off + i * 6 + 4, none⟩ = some (.int .i64 a.r) := hcell 4 _ rfl
            have c5 : w10.cell? ⟨b, off + i * 6 + 5, none⟩ = some (.slice yo yn yc) := hcell 5 _ rfl
            clear hrow hbg hcell hinT hokA hal2 hstq hset hxa hxe hp1 hp2 hp3 htk hpt ha hT
            go_wp2_with fail
            refine HSET.out.mono ?_
            intro e w11 hs11
            obtain ⟨rfl, hl11, -⟩ := hs11
            rw [HP2.out]
            rw [← HTK.out, ← HPT.out] at hl11
            have L11 := hide hl11
            clear hl11 c0 c1 c2 c3 c4 c5 HSET
            go_wp2_with fail
            go_roundw
            case rel => exact ⟨i + 1, by omega, by go_num, L11.out⟩
            case measure => simp [intOf]; omega
          · have e5 : decide ((i : Int) < (n : Int)) = false := by simp; omega
            have e5' : decide (i < n) = false := by simpa using hin
            obtain rfl : i = n := by omega
            clear hin
            have UA := hide (U8.out.trans L10.out.upd)
            obtain ⟨bvx, sox, snx, scx, hsx⟩ := (LA7.out.upd_nil UA.out).at_
            obtain ⟨bvy, soy, sny, scy, hsy'⟩ := L10.out.at_
            have halk := alike_any w10 hsx hsy' LA7.out.sto L10.out.sto (by omega) (by omega)
            have ALK := hide halk
            clear hsx hsy' halk
            go_wp2_with fail
            refine ALK.out.mono ?_
            rintro e w11 ⟨r, rfl, hr, hu11⟩
            have U11 := hide hu11
            clear hu11 ALK
            cases r
            · have hlt6 : i < m := by
                rcases Nat.lt_or_ge i m with h | h
                · exact h
                · obtain rfl : i = m := by omega
                  cases hr.2 rfl
              have HLT := hide hlt6
              clear hr hlt6
              go_wp2_with fail
              go_roundw
              case rel => exact ⟨i + 1, by have := HLT.out; omega, by go_num, UA.out.trans U11.out⟩
              case measure => have := HLT.out; simp [intOf]; omega
            · have heq := hr.1 rfl
              have tw := twin_of (i' := 40) ((LB7.out.upd_nil U8.out)) (L10.out.upd.trans U11.out) ((L10.out.upd_nil U11.out).weak (by omega)) FB1.out
              rw [← heq] at tw
              have TW0 := hide tw
              clear hr heq tw
              go_wp2_with fail
              go_loopw [24] (fun si wr => ∃ (k : Nat) (t : Sto) (R1 R2 : List (List UInt8)), k ≤ more.length ∧ si = .int .i64 k ∧ Twin w wr Sb Lb D gb w.heap.size R1 m t (40 + k) S' L' D' g' w8.heap.size R2 0 t (40 + k)) (fun si _ => more.length - (intOf si).toNat)
              case atStart => exact ⟨0, _, _, _, by omega, rfl, TW0.out⟩
              case round =>
                obtain ⟨k, t, R1, R2, hk, rfl, htw⟩ := hrel
                rename World => w12
                have TW := hide htw
                have htu : Upd [] w w12 := by obtain ⟨⟨E1, t1, -⟩, -⟩ := htw; exact t1.upd
                clear htw
                by_cases hkm : k < more.length
                · have f5 : decide ((k : Int) < (more.length : Int)) = true := by simp; omega
                  have f5' : decide (k < more.length) = true := by simpa using hkm
                  obtain ⟨a, ha⟩ : ∃ a, more[k]? = some a := ⟨more[k], List.getElem?_eq_getElem hkm⟩
                  obtain ⟨b, off, yo, yn, yc, rfl, hb, hin, hok, c0, c1, c2, c3, c4, c5⟩ := MGT.out k a ha
                  have hbl := GM.out.2 a (List.mem_of_getElem? ha)
                  have C0 := hide c0; have C1 := hide c1; have C2 := hide c2; have C3 := hide c3; have C4 := hide c4; have C5 := hide c5; have IN := hide hin; have HOK := hide hok; have BL := hide hbl
                  have TU := hide htu
                  clear c0 c1 c2 c3 c4 c5 hin hok hbl ha htu
                  go_upto_region 40 with fail
                  have d0 : Upd [] w (w12.drewN 1) := TU.out.drewN 1
                  refine wp_region_seqP (findOps 40 ((Tryd.f3.body).getD .skip)) (by kernel_rfl) [5, 11, 16] [0, 1, 2, 3, 4, 6, 7, 8, 9, 10, 5, 11, 12, 13, 14, 15, 16, 17, 18] (fun wx => Upd [] w wx) (by kernel_rfl) (by kernel_rfl) (fun _ _ d _ _ h => by cases d <;> exact h) d0 ?_
                  simp only [pickO, List.filterMap_cons, List.filterMap_nil, List.getElem?_cons_succ, List.getElem?_cons_zero]
                  refine wpSeqP_take (by kernel_rfl) (by kernel_rfl) ?_
                  apply Exists.intro
                  refine ⟨fun wx hS => ?_, fun a' ha => ?_⟩
                  · go_simp; rfl
                  simp only [Act.put, List.setIfInBounds_toArray, List.set_cons_succ, List.set_cons_zero] at ha
                  subst ha
                  refine wpSeqP_take (by kernel_rfl) (by kernel_rfl) ?_
                  apply Exists.intro
                  refine ⟨fun wx hS => ?_, fun a' ha => ?_⟩
                  · go_simp; rfl
                  simp only [Act.put, List.setIfInBounds_toArray, List.set_cons_succ, List.set_cons_zero] at ha
                  subst ha
                  refine wpSeqP_take (by kernel_rfl) (by kernel_rfl) ?_
                  apply Exists.intro
                  refine ⟨fun wx hS => ?_, fun a' ha => ?_⟩
                  · go_simp; rfl
                  simp only [Act.put, List.setIfInBounds_toArray, List.set_cons_succ, List.set_cons_zero] at ha
                  subst ha
                  refine wpSeqP_take (by kernel_rfl) (by kernel_rfl) ?_
                  apply Exists.intro
                  refine ⟨fun wx hS => ?_, fun a' ha => ?_⟩
                  · go_simp; rfl
                  simp only [Act.put, List.setIfInBounds_toArray, List.set_cons_succ, List.set_cons_zero] at ha
                  subst ha
                  refine wpSeqP_take (by kernel_rfl) (by kernel_rfl) ?_
                  apply Exists.intro
                  refine ⟨fun wx hS => ?_, fun a' ha => ?_⟩
                  · have c0 := Rec.cell_keep hS C0.out (by simp);have c1 := Rec.cell_keep hS C1.out (by simp);have c2 := Rec.cell_keep hS C2.out (by simp);have c3 := Rec.cell_keep hS C3.out (by simp);have c4 := Rec.cell_keep hS C4.out (by simp);have c5 := Rec.cell_keep hS C5.out (by simp); go_simp; rfl
                  simp only [Act.put, List.setIfInBounds_toArray, List.set_cons_succ, List.set_cons_zero] at ha
                  subst ha
                  refine wpSeqP_take (by kernel_rfl) (by kernel_rfl) ?_
                  apply Exists.intro
                  refine ⟨fun wx hS => ?_, fun a' ha => ?_⟩
                  · go_simp; rfl
                  simp only [Act.put, List.setIfInBounds_toArray, List.set_cons_succ, List.set_cons_zero] at ha
                  subst ha
                  refine wpSeqP_take (by kernel_rfl) (by kernel_rfl) ?_
                  apply Exists.intro
                  refine ⟨fun wx hS => ?_, fun a' ha => ?_⟩
                  · go_simp; rfl
                  simp only [Act.put, List.setIfInBounds_toArray, List.set_cons_succ, List.set_cons_zero] at ha
                  subst ha
                  refine wpSeqP_take (by kernel_rfl) (by kernel_rfl) ?_
                  apply Exists.intro
                  refine ⟨fun wx hS => ?_, fun a' ha => ?_⟩
                  · go_simp; rfl
                  simp only [Act.put, List.setIfInBounds_toArray, List.set_cons_succ, List.set_cons_zero] at ha
                  subst ha
                  refine wpSeqP_take (by kernel_rfl) (by kernel_rfl) ?_
                  apply Exists.intro
                  refine ⟨fun wx hS => ?_, fun a' ha => ?_⟩
                  · go_simp; rfl
                  simp only [Act.put, List.setIfInBounds_toArray, List.set_cons_succ, List.set_cons_zero] at ha
                  subst ha
                  refine wpSeqP_take (by kernel_rfl) (by kernel_rfl) ?_
                  apply Exists.intro
                  refine ⟨fun wx hS => ?_, fun a' ha => ?_⟩
                  · have c0 := Rec.cell_keep hS C0.out (by simp);have c1 := Rec.cell_keep hS C1.out (by simp);have c2 := Rec.cell_keep hS C2.out (by simp);have c3 := Rec.cell_keep hS C3.out (by simp);have c4 := Rec.cell_keep hS C4.out (by simp);have c5 := Rec.cell_keep hS C5.out (by simp); go_simp; rfl
                  simp only [Act.put, List.setIfInBounds_toArray, List.set_cons_succ, List.set_cons_zero] at ha
                  subst ha
                  refine wpSeqP_one (by kernel_rfl) (by kernel_rfl) (fun K hK => ?_)
                  go_simp
                  obtain ⟨⟨E1, t1, t2⟩, ⟨E2, t3, t4⟩⟩ := TW.out.upd_nil (w1 := w12.drewN 1) ((Upd.refl [] w12).drewN 1)
                  obtain ⟨bv1, so1, sn1, sc1, hst1⟩ := t1.at_
                  have lt1 := t1.lt
                  have wz1 := d0.size
                  refine (lset_log t1 (by omega) a HOK.out (by have := BL.out; omega) yo yn yc ((IN.out.upd d0 (by simp)).lies hst1.dsk wz1 lt1.1 lt1.2.2.2.2.1 (by simp; omega))).mono ?_
                  intro e w13 hs13
                  obtain ⟨rfl, tw1⟩ := Twin.set t1 t2 t3 t4 hs13
                  have d1 := hs13.2.1.upd
                  clear hs13 t1 t2 t3 t4 hst1 lt1 wz1
                  obtain ⟨dn, hdn⟩ : ∃ dn, decide (mayM t a.set = 0) = dn := ⟨_, rfl⟩
                  rw [hdn]
                  refine hK _ _ (d1) ?_
                  clear hK K
                  try simp only [Act.put, List.setIfInBounds_toArray, List.set_cons_succ, List.set_cons_zero]
                  refine wpSeqP_one (by kernel_rfl) (by kernel_rfl) (fun K hK => ?_)
                  go_simp
                  obtain ⟨⟨E1, t1, t2⟩, ⟨E2, t3, t4⟩⟩ := tw1.swap
                  obtain ⟨bv1, so1, sn1, sc1, hst1⟩ := t1.at_
                  have lt1 := t1.lt
                  have wz1 := d1.size
                  refine (lset_log t1 (by omega) a HOK.out (by have := BL.out; omega) yo yn yc ((IN.out.upd d1 (by simp)).lies hst1.dsk wz1 lt1.1 lt1.2.2.2.2.1 (by simp; omega))).mono ?_
                  intro e w14 hs14
                  obtain ⟨rfl, tw2⟩ := Twin.set t1 t2 t3 t4 hs14
                  have d2 := hs14.2.1.upd
                  clear hs14 t1 t2 t3 t4 hst1 lt1 wz1 tw1
                  rw [hdn]
                  have q : (dn != dn) = false := by cases dn <;> rfl
                  clear hdn
                  refine hK _ _ (d2) ?_
                  clear hK K
                  try simp only [Act.put, List.setIfInBounds_toArray, List.set_cons_succ, List.set_cons_zero]
                  refine wpSeqP_take (by kernel_rfl) (by kernel_rfl) ?_
                  apply Exists.intro
                  refine ⟨fun wx hS => ?_, fun a' ha => ?_⟩
                  · go_simp; rfl
                  simp only [Act.put, List.setIfInBounds_toArray, List.set_cons_succ, List.set_cons_zero] at ha
                  subst ha
                  refine wpSeqP_take (by kernel_rfl) (by kernel_rfl) ?_
                  apply Exists.intro
                  refine ⟨fun wx hS => ?_, fun a' ha => ?_⟩
                  · go_simp; rfl
                  simp only [Act.put, List.setIfInBounds_toArray, List.set_cons_succ, List.set_cons_zero] at ha
                  subst ha
                  refine wpSeqP_take (by kernel_rfl) (by kernel_rfl) ?_
                  apply Exists.intro
                  refine ⟨fun wx hS => ?_, fun a' ha => ?_⟩
                  · go_simp; rfl
                  simp only [Act.put, List.setIfInBounds_toArray, List.set_cons_succ, List.set_cons_zero] at ha
                  subst ha
                  refine wpSeqP_take (by kernel_rfl) (by kernel_rfl) ?_
                  apply Exists.intro
                  refine ⟨fun wx hS => ?_, fun a' ha => ?_⟩
                  · go_simp; rfl
                  simp only [Act.put, List.setIfInBounds_toArray, List.set_cons_succ, List.set_cons_zero] at ha
                  subst ha
                  refine wpSeqP_one (by kernel_rfl) (by kernel_rfl) (fun K hK => ?_)
                  go_simp
                  obtain ⟨⟨E1, t1, t2⟩, ⟨E2, t3, t4⟩⟩ := tw2
                  obtain ⟨bv1, so1, sn1, sc1, hst1⟩ := t1.at_
                  obtain ⟨bv3, so3, sn3, sc3, hst3⟩ := t3.at_
                  refine (alike_any w14 hst3 hst1 t3.sto t1.sto (by omega) (by omega)).mono ?_
                  rintro e w15 ⟨r, rfl, hr, hu15⟩
                  obtain rfl : r = true := hr.2 rfl
                  have tw3 := (Twin.mk ⟨E2, t3, t4⟩ ⟨E1, t1, t2⟩).upd_nil hu15
                  have d3 := d2.trans hu15
                  have TW3 := hide tw3
                  clear hst1 hst3 t1 t2 t3 t4 tw3 hr hu15
                  refine hK _ _ (d3) ?_
                  clear hK K
                  try simp only [Act.put, List.setIfInBounds_toArray, List.set_cons_succ, List.set_cons_zero]
                  refine wpSeqP_take (by kernel_rfl) (by kernel_rfl) ?_
                  apply Exists.intro
                  refine ⟨fun wx hS => ?_, fun a' ha => ?_⟩
                  · go_simp; rfl
                  simp only [Act.put, List.setIfInBounds_toArray, List.set_cons_succ, List.set_cons_zero] at ha
                  subst ha
                  refine wpSeqP_take (by kernel_rfl) (by kernel_rfl) ?_
                  apply Exists.intro
                  refine ⟨fun wx hS => ?_, fun a' ha => ?_⟩
                  · go_simp; rfl
                  simp only [Act.put, List.setIfInBounds_toArray, List.set_cons_succ, List.set_cons_zero] at ha
                  subst ha
                  unfold wpSeqP
                  clear d0 d1 d2 d3 q
                  go_wp2_with fail
                  go_roundw
                  case rel => exact ⟨k + 1, _, _, _, by omega, by go_num, TW3.out⟩
                  case measure => simp [intOf]; omega
                · have f5 : decide ((k : Int) < (more.length : Int)) = false := by simp; omega
                  have f5' : decide (k < more.length) = false := by simpa using hkm
                  have TU := hide htu
                  clear hkm htu
                  go_wp2_with fail
                  refine (wakes16_any w12 (HST.out.upd TU.out (by simp))).mono ?_
                  rintro e w13 ⟨rfl, hu⟩
                  have U := hide (TU.out.trans hu)
                  clear hu
                  go_wp2_with fail
                  go_ret
                  exact ⟨rfl, U.out⟩
end Go.Proofs.YtekbhfpdakhhkaaDoor.St
