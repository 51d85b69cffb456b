/- stable.Store.Vote. -/
import Derived.Test.YtekbhfpdakhhkaaGreatDoorStV
namespace Go.Proofs.YtekbhfpdakhhkaaGreatDoor.St
set_option linter.unusedSimpArgs false
set_option linter.unusedVariables false
set_option linter.unnecessarySimpa false
open Go.RowKit Go.Lib Go.Proofs.YtekbhfpdakhhkaaGreatDoor.Crc Go.Proofs.YtekbhfpdakhhkaaGreatDoor.Var Go.Proofs.YtekbhfpdakhhkaaGreatDoor.DiskW

abbrev votC (k n : Nat) (r : Int) (v : Value) : Obj := .cells #[.int .u64 (k : Int), .int .u64 (n : Int), .int .i64 r, v] 57
abbrev votV (k n : Nat) (r : Int) (v : Value) : Value := .agg #[.int .u64 (k : Int), .int .u64 (n : Int), .int .i64 r, v]
def vo0 : Vo := ⟨Bal.zero, []⟩
theorem set4_blk {w : World} {B : Nat} {a b c d a' b' c' d' : Value} {t : TypeId} (h : w.heap[B]? = some (.cells #[a, b, c, d] t (0, 0))) :
    ((((w.setCell ⟨B, 0, none⟩ a').setCell ⟨B, 1, none⟩ b').setCell ⟨B, 2, none⟩ c').setCell ⟨B, 3, none⟩ d').heap[B]? = some (.cells #[a', b', c', d'] t (0, 0)) := blk_set (blk_set (blk_set (blk_set h _) _) _) _
section
variable {E : List Nat} {S L D g base : Nat} {so : Option Addr} {sn sc : Nat} {bv : Value} {d : DS} {s : Sto}
/-- What Vote answers: f = is there one. -/
def VoteSays (w : World) (k : Nat) (o : Option Vo) (e : Ending) (w' : World) : Prop :=
  ∃ ao cap, e = .returned (.tuple #[votV (if o.isSome then k else 0) (o.getD vo0).b.n (o.getD vo0).b.r (.slice ao (o.getD vo0).batch.length cap), .bool o.isSome]) ∧ w'.ownsRow w.heap.size 5 1 (.slice ao (o.getD vo0).batch.length cap) (o.getD vo0).batch.length ((o.getD vo0).batch.map u8v) ∧ Upd [] w w'
/-- What is looked up in the map. -/
theorem vote_look {w : World} (h : StoAt E w S L D g base so sn sc bv d s) {k : Nat} (hk : k < 18446744073709551616) : ∃ xo xn xc, xn = ((mfind s.votes k).getD vo0).batch.length ∧
    (Instr.lookup 77 (.map (some g)) (.int .u64 (k : Int)) true).run Tryz.prog w = .ok (.tuple #[votV (if (mfind s.votes k).isSome then k else 0) ((mfind s.votes k).getD vo0).b.n ((mfind s.votes k).getD vo0).b.r (.slice xo xn xc), .bool (mfind s.votes k).isSome]) w ∧
    SrcAt w xo xn xc (((mfind s.votes k).getD vo0).batch.map u8v) 1 := by
  obtain ⟨l, h1, h2, h3, h4⟩ := h.vts.raw
  have hl := MapKind.look h1 (k := k) hk
  cases hf : mfind s.votes k with
  | none =>
    rw [h3 k hf] at hl
    exact ⟨none, 0, 0, rfl, hl, ⟨rfl, by simp [vo0], fun _ => ⟨rfl, rfl⟩, fun a e => by cases e⟩⟩
  | some v =>
    obtain ⟨x, g1, g2, g3, g4, g5⟩ := h4 k v hf
    rw [g1] at hl
    have e1 : (vtK.ev ((some x).getD vtK.z)) = votV k v.b.n v.b.r (.slice (adOf x.xo) x.len x.cap) := by
      show vrV x = _
      unfold vrV
      rw [g2, g3, g4]
    rw [e1] at hl
    refine ⟨adOf x.xo, x.len, x.cap, g5.len.symm, ?_, g5.src⟩
    exact hl
theorem vote_ends {fn : Func} {w W : World} {R0 k vc : Nat} {vo : Option Addr} {ok : Bool} {o : Option Vo} {p u : Tmp} {a : Act} (hfn : fn.results = #[.cell p 57, .tmp u]) (hp : a.tmps.getD p undef = .pointer (some ⟨R0, 0, none⟩)) (hv : a.tmps.getD u undef = .bool ok) (hd : a.defers = [])
    (hB : W.heap[R0]? = some (votC (if o.isSome then k else 0) (o.getD vo0).b.n (o.getD vo0).b.r (.slice vo (o.getD vo0).batch.length vc))) (hok : ok = o.isSome) (ho : W.ownsRow w.heap.size 5 1 (.slice vo (o.getD vo0).batch.length vc) (o.getD vo0).batch.length ((o.getD vo0).batch.map u8v)) (hu : Upd [] w W) :
    bodyPost Tryz.prog fn (VoteSays w k o) .ret a W := by
  have z0 := blk_cell (i := 0) hB rfl
  have z1 := blk_cell (i := 1) hB rfl
  have z2 := blk_cell (i := 2) hB rfl
  have z3 := blk_cell (i := 3) hB rfl
  refine bodyPost_ret (v := .tuple #[votV (if o.isSome then k else 0) (o.getD vo0).b.n (o.getD vo0).b.r (.slice vo (o.getD vo0).batch.length vc), .bool o.isSome]) ?_ hd ⟨vo, vc, rfl, ho, hu⟩
  rw [results_cell_tmp hfn, hp, hv, hok]
  go_simp
set_option maxRecDepth 100000 in
set_option maxHeartbeats 2000000 in
theorem vote_any (w : World) (h : StoAt E w S L D g base so sn sc bv d s) (k : Nat) (hk : k < 18446744073709551616) (hl : ((mfind s.votes k).getD vo0).batch.length ≤ 1000) :
    Calls Tryz.prog 40 #[.pointer (some ⟨S, 0, none⟩), .int .u64 (k : Int)] w (VoteSays w k (mfind s.votes k)) := by
  have hu := (Upd.refl [] w).alloc (.cells #[.int .u64 0, .int .u64 0, .int .i64 0, .slice none 0 0] 57)
  have hR := blk_new w (.cells #[.int .u64 0, .int .u64 0, .int .i64 0, .slice none 0 0] 57)
  obtain ⟨xo, xn, xc, hxn, hlk, hsrc⟩ := vote_look (h.upd_nil hu) hk
  have y5 : (w.alloc (.cells #[.int .u64 0, .int .u64 0, .int .i64 0, .slice none 0 0] 57)).cell? ⟨S, 5, none⟩ = some (.map (some g)) := blk_cell (hu.get h.blk (by simp)) rfl
  clear h
  obtain ⟨o, ho⟩ : ∃ o, mfind s.votes k = o := ⟨_, rfl⟩
  rw [ho] at hl hxn hlk hsrc ⊢
  clear ho
  obtain ⟨vn, hvn⟩ : ∃ vn, (o.getD vo0).b.n = vn := ⟨_, rfl⟩
  obtain ⟨vr, hvr⟩ : ∃ vr, (o.getD vo0).b.r = vr := ⟨_, rfl⟩
  obtain ⟨vk, hvk⟩ : ∃ vk, (if o.isSome then k else 0) = vk := ⟨_, rfl⟩
  obtain ⟨vs, hvs⟩ : ∃ vs, o.isSome = vs := ⟨_, rfl⟩
  rw [hvn, hvr, hvk] at hlk
  have HL := hide hl; have HXN := hide hxn; have HVN := hide hvn; have HVR := hide hvr; have HVK := hide hvk; have HVS := hide hvs
  have hlk' : (Instr.lookup 77 (.map (some g)) (.int .u64 (k : Int)) true).run Tryz.prog (w.alloc (.cells #[.int .u64 0, .int .u64 0, .int .i64 0, .slice none 0 0] 57)) = .ok (.tuple #[.agg #[.int .u64 (vk : Int), .int .u64 (vn : Int), .int .i64 vr, .slice xo xn xc], .bool vs]) (w.alloc (.cells #[.int .u64 0, .int .u64 0, .int .i64 0, .slice none 0 0] 57)) := by rw [← hvs]; exact hlk
  clear hl hxn hlk hvn hvr hvk hvs
  go_enter Tryz.func40, Tryz.ntmps40
  go_upto_region 3 with fail
  generalize w.alloc (.cells #[.int .u64 0, .int .u64 0, .int .i64 0, .slice none 0 0] 57) = w2 at *
  have hX := blk_new w2 (votC vk vn vr (.slice xo xn xc))
  have hu2 := (Upd.refl [] w2).alloc (votC vk vn vr (.slice xo xn xc))
  have hR2 := hu2.get hR (by simp)
  have hs2 := src_upd hsrc hu2 (by simp)
  have hsz2 : (w2.alloc (votC vk vn vr (.slice xo xn xc))).heap.size = w2.heap.size + 1 := by simp
  have hzz := hu.size
  have hRl := blk_lt hR
  clear hsrc
  go_upto_region 4 with fail
  generalize w2.alloc (votC vk vn vr (.slice xo xn xc)) = w3 at *
  have U3 := hide (hu.trans hu2)
  obtain ⟨X, hXn⟩ : ∃ X, w2.heap.size = X := ⟨_, rfl⟩
  rw [hXn] at hX hsz2 hRl ⊢
  have HX := hide hX; have HR := hide hR2
  have x3 := blk_cell (i := 3) hX rfl
  clear hu hu2 hR hX hR2 hlk' y5 hXn
  go_wp2_with fail
  refine (clone_any w3 hs2 (by have := HL.out; have := HXN.out; omega)).mono ?_
  rintro e w4 ⟨⟨ao, cap, rfl, ho⟩, hu4⟩
  have hX4 := hu4.get HX.out (by simp)
  have hR4 := hu4.get HR.out (by simp)
  have x0 := blk_cell (i := 0) hX4 rfl
  have x1 := blk_cell (i := 1) hX4 rfl
  have x2 := blk_cell (i := 2) hX4 rfl
  have x3' := blk_cell (i := 3) hX4 rfl
  have f3 := blk_free (i := 3) hX4
  clear x3
  have O4 := hide ho; have U4 := hide (U3.out.trans hu4)
  have hs4 := hu4.size
  have hsw := U3.out.size
  clear ho hu4 hs2
  go_upto_region 5 with fail
  have hX5 : (w4.setCell ⟨X, 3, none⟩ (.slice ao xn cap)).heap[X]? = some (votC vk vn vr (.slice ao xn cap)) := blk_set hX4 _
  have hu5 : Upd [X] w4 (w4.setCell ⟨X, 3, none⟩ (.slice ao xn cap)) := (Upd.refl [X] w4).setCell (.inl (by simp)) _
  have hw3 : w3.heap.size ≤ w4.heap.size := hs4
  generalize w4.setCell ⟨X, 3, none⟩ (.slice ao xn cap) = w5 at *
  have hR5 := hu5.get hR4 (by simp; omega)
  clear x0 x1 x2 x3' f3
  have x0 := blk_cell (i := 0) hX5 rfl
  have x1 := blk_cell (i := 1) hX5 rfl
  have x2 := blk_cell (i := 2) hX5 rfl
  have x3 := blk_cell (i := 3) hX5 rfl
  have r0 := blk_cell (i := 0) hR5 rfl
  have r1 := blk_cell (i := 1) hR5 rfl
  have r2 := blk_cell (i := 2) hR5 rfl
  have r3 := blk_cell (i := 3) hR5 rfl
  have g0 := blk_free (i := 0) hR5
  have g1 := blk_free (i := 1) hR5
  have g2 := blk_free (i := 2) hR5
  have g3 := blk_free (i := 3) hR5
  have hxw : w.heap.size ≤ X := by omega
  have O5 : w5.ownsRow w3.heap.size 5 1 (.slice ao xn cap) xn ((o.getD vo0).batch.map u8v) := owns_upd O4.out hu5 (fun k hk => by have := (owns_lt O4.out k hk).1; simp; omega)
  have U5 := hide (U4.out.trans_new hu5 (fun k hk => .inr (by simp at hk; omega))); have O5' := hide O5; have R5 := hide hR5
  clear hX4 hR4 hX5 hu5 hR5 O5 O4 U4
  go_wp2_with fail
  have hRF := set4_blk (a' := .int .u64 (vk : Int)) (b' := .int .u64 (vn : Int)) (c' := .int .i64 vr) (d' := .slice ao xn cap) R5.out
  have hUF : Upd [w.heap.size] w5 ((((w5.setCell ⟨w.heap.size, 0, none⟩ (.int .u64 (vk : Int))).setCell ⟨w.heap.size, 1, none⟩ (.int .u64 (vn : Int))).setCell ⟨w.heap.size, 2, none⟩ (.int .i64 vr)).setCell ⟨w.heap.size, 3, none⟩ (.slice ao xn cap)) := ((((Upd.refl [w.heap.size] w5).setCell (.inl (by simp)) _).setCell (.inl (by simp)) _).setCell (.inl (by simp)) _).setCell (.inl (by simp)) _
  have hvn := HVN.out; have hvr := HVR.out; have hvk := HVK.out; have hxn := HXN.out
  subst hvn hvr hvk hxn
  exact vote_ends rfl rfl rfl rfl hRF HVS.out.symm (Rec.owns_mono (owns_upd O5'.out hUF (fun k hk => by have := (owns_lt O5'.out k hk).1; simp; omega)) (by omega)) (U5.out.trans_new hUF (fun k hk => .inr (by simp at hk; omega)))
end
end Go.Proofs.YtekbhfpdakhhkaaGreatDoor.St
