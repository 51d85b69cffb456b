/- SetPromise, SetVote, SetSnap, Sync; the law's set. -/
import Derived.Test.YtekbhfpdakhhkaaGreatDoorStP
namespace Go.Proofs.YtekbhfpdakhhkaaGreatDoor.St
set_option linter.unusedSimpArgs false
set_option linter.unusedVariables false
set_option linter.unnecessarySimpa false
open Go.RowKit Go.Lib Go.Proofs.YtekbhfpdakhhkaaGreatDoor.Crc Go.Proofs.YtekbhfpdakhhkaaGreatDoor.Var Go.Proofs.YtekbhfpdakhhkaaGreatDoor.DiskW Go.Proofs.YtekbhfpdakhhkaaGreatDoor.Rec

theorem Lies.nil (w : World) (D : Nat) (X : List Nat) : Lies w D X none 0 0 [] :=
  ⟨⟨rfl, by simp, fun _ => ⟨rfl, rfl⟩, fun a h => by cases h⟩, Nat.le_refl _, by simp [maxLen], fun a h => by cases h⟩
section
variable {E : List Nat} {S L D g base : Nat} {so : Option Addr} {sn sc : Nat} {bv : Value} {d : DS} {s : Sto}
/-- What a set leaves. -/
def PutSays (E : List Nat) (w : World) (S L D g base : Nat) (d : DS) (s : Sto) (x : SetM) (e : Ending) (w' : World) : Prop :=
  e = .returned (.int .i64 (putT d s x).2) ∧ (∃ bv' so' sn' sc', StoAt E w' S L D g base so' sn' sc' bv' (putT d s x).1.1 (putT d s x).1.2) ∧ Turned D [S, g] w w'
/-- What must hold ahead of a set. -/
structure Ready (w : World) (D base : Nat) (d : DS) (s : Sto) (i : Nat) : Prop where
  tab : TabAt w
  hD : base ≤ D
  hb : base ≤ w.heap.size
  ok : d.Ok 1000000000000
  sto : StoOk s i
  lt : i < 1000
theorem Ready.upd {w w' : World} {i : Nat} (h : Ready w D base d s i) (hu : Upd [] w w') : Ready w' D base d s i :=
  ⟨h.tab.upd hu (by simp), h.hD, Nat.le_trans h.hb hu.size, h.ok, h.sto, h.lt⟩
theorem Turned.pre {X : List Nat} {w w1 w' : World} (h : Turned D X w1 w') (hu : Upd [] w w1) (hD : D < w.heap.size) : Turned D X w w' :=
  (Turned.of_upd hu hD (by simp) (by simp)).trans h
theorem PutSays.pre {w w1 w' : World} {x : SetM} {e : Ending} (h : PutSays E w1 S L D g base d s x e w') (hu : Upd [] w w1) (hD : D < w.heap.size) : PutSays E w S L D g base d s x e w' :=
  ⟨h.1, h.2.1, h.2.2.pre hu hD⟩
set_option maxHeartbeats 1000000 in
theorem setPromise_any {i : Nat} (w : World) (h : StoAt E w S L D g base so sn sc bv d s) (hr : Ready w D base d s i) (b : Bal) (hn : b.n < 18446744073709551616) :
    Calls Tryz.prog 12 #[.pointer (some ⟨S, 0, none⟩), balV b] w (PutSays E w S L D g base d s ⟨1, 0, b, []⟩) := by
  have hDl := blk_lt h.dsk.hD
  have hX := blk_new w (.cells #[.int .u64 (b.n : Int), .int .i64 b.r] 25)
  have hu := (Upd.refl [] w).alloc (.cells #[.int .u64 (b.n : Int), .int .i64 b.r] 25)
  have hp := put_any (i := i) _ (h.upd_nil hu) (hr.upd hu).tab hr.hD (hr.upd hu).hb hr.ok hr.sto hr.lt ⟨1, 0, b, []⟩ ⟨.inl rfl, by simp, hn, by simp⟩ none 0 0 (Lies.nil _ _ _)
  have hp2 : Calls Tryz.prog 38 #[.pointer (some ⟨S, 0, none⟩), .agg #[.int .u64 1, .int .u64 0, .int .u64 (b.n : Int), .int .i64 b.r, .slice none 0 0]] (w.alloc (.cells #[.int .u64 (b.n : Int), .int .i64 b.r] 25)) (PutSays E w S L D g base d s ⟨1, 0, b, []⟩) := hp.mono fun e w' h' => PutSays.pre h' hu hDl
  have HP := hide hp2
  clear hp hp2 h hr hu hX
  go_enter Tryz.func12, Tryz.ntmps12
  go_wp2_with fail
  refine HP.out.mono ?_
  rintro e w' ⟨rfl, h1, h2⟩
  have H1 := hide h1; have H2 := hide h2
  clear h1 h2
  go_wp2_with fail
  go_ret
  exact ⟨rfl, H1.out, H2.out⟩
set_option maxHeartbeats 1000000 in
theorem setVote_any {i : Nat} (w : World) (h : StoAt E w S L D g base so sn sc bv d s) (hr : Ready w D base d s i) (slot : Nat) (b : Bal) (xo : Option Addr) (xn xc : Nat) (bytes : List UInt8) (hs : slot < 18446744073709551616) (hn : b.n < 18446744073709551616) (hb : Lies w D [S, L, g] xo xn xc bytes) (hl : bytes.length ≤ 1000) :
    Calls Tryz.prog 16 #[.pointer (some ⟨S, 0, none⟩), .agg #[.int .u64 (slot : Int), .int .u64 (b.n : Int), .int .i64 b.r, .slice xo xn xc]] w (PutSays E w S L D g base d s ⟨2, slot, b, bytes⟩) := by
  have hDl := blk_lt h.dsk.hD
  have hu := (Upd.refl [] w).alloc (.cells #[.int .u64 (slot : Int), .int .u64 (b.n : Int), .int .i64 b.r, .slice xo xn xc] 57)
  have hp := put_any (i := i) _ (h.upd_nil hu) (hr.upd hu).tab hr.hD (hr.upd hu).hb hr.ok hr.sto hr.lt ⟨2, slot, b, bytes⟩ ⟨.inr (.inl rfl), hs, hn, hl⟩ xo xn xc (hb.upd hu hDl (by simp) (by simp))
  have hp2 : Calls Tryz.prog 38 #[.pointer (some ⟨S, 0, none⟩), .agg #[.int .u64 2, .int .u64 (slot : Int), .int .u64 (b.n : Int), .int .i64 b.r, .slice xo xn xc]] (w.alloc (.cells #[.int .u64 (slot : Int), .int .u64 (b.n : Int), .int .i64 b.r, .slice xo xn xc] 57)) (PutSays E w S L D g base d s ⟨2, slot, b, bytes⟩) := hp.mono fun e w' h' => PutSays.pre h' hu hDl
  have HP := hide hp2
  clear hp hp2 h hr hu hb
  go_enter Tryz.func16, Tryz.ntmps16
  go_wp2_with fail
  refine HP.out.mono ?_
  rintro e w' ⟨rfl, h1, h2⟩
  have H1 := hide h1; have H2 := hide h2
  clear h1 h2
  go_wp2_with fail
  go_ret
  exact ⟨rfl, H1.out, H2.out⟩
set_option maxHeartbeats 1000000 in
theorem setSnap_any {i : Nat} (w : World) (h : StoAt E w S L D g base so sn sc bv d s) (hr : Ready w D base d s i) (slot : Nat) (xo : Option Addr) (xn xc : Nat) (bytes : List UInt8) (hs : slot < 18446744073709551616) (hb : Lies w D [S, L, g] xo xn xc bytes) (hl : bytes.length ≤ 1000) :
    Calls Tryz.prog 14 #[.pointer (some ⟨S, 0, none⟩), .int .u64 (slot : Int), .slice xo xn xc] w (PutSays E w S L D g base d s ⟨3, slot, Bal.zero, bytes⟩) := by
  have hp := put_any (i := i) _ h hr.tab hr.hD hr.hb hr.ok hr.sto hr.lt ⟨3, slot, Bal.zero, bytes⟩ ⟨.inr (.inr rfl), hs, by simp [Bal.zero], hl⟩ xo xn xc hb
  have hp2 : Calls Tryz.prog 38 #[.pointer (some ⟨S, 0, none⟩), .agg #[.int .u64 3, .int .u64 (slot : Int), .int .u64 0, .int .i64 0, .slice xo xn xc]] w (PutSays E w S L D g base d s ⟨3, slot, Bal.zero, bytes⟩) := hp
  have HP := hide hp2
  clear hp hp2 h hr hb
  go_enter Tryz.func14, Tryz.ntmps14
  go_wp2_with fail
  refine HP.out.mono ?_
  rintro e w' ⟨rfl, h1, h2⟩
  have H1 := hide h1; have H2 := hide h2
  clear h1 h2
  go_wp2_with fail
  go_ret
  exact ⟨rfl, H1.out, H2.out⟩
set_option maxHeartbeats 1000000 in
theorem ssync_any {i : Nat} (w : World) (h : StoAt E w S L D g base so sn sc bv d s) (hD : base ≤ D) (hb : base ≤ w.heap.size) :
    Calls Tryz.prog 11 #[.pointer (some ⟨S, 0, none⟩)] w fun e w' => e = .returned (.int .i64 d.sync.2) ∧ (∃ bv', StoAt E w' S L D g base so sn sc bv' d.sync.1 s) ∧ Turned D [] w w' := by
  have y0 : w.cell? ⟨S, 0, none⟩ = some (.pointer (some ⟨L, 0, none⟩)) := blk_cell h.blk rfl
  have H := hide h
  clear h
  go_enter Tryz.func11, Tryz.ntmps11
  go_wp2_with fail
  refine (lsync_any w H.out.dsk hD hb H.out.log).mono ?_
  rintro e w1 ⟨v, rfl, rfl, bv', hd, hbel, hn⟩
  have H1 := hide (H.out.near hn hd); have T1 := hide (Turned.of_near (X := []) hn)
  clear y0 hd hbel hn
  go_wp2_with fail
  go_ret
  exact ⟨rfl, ⟨_, H1.out⟩, T1.out⟩
end
end Go.Proofs.YtekbhfpdakhhkaaGreatDoor.St
