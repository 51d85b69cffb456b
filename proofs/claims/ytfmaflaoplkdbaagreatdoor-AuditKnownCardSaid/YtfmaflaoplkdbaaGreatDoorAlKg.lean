/- The law AuditKnown: the region that lays its histories, whose operations come in any order. -/
import Derived.Test.YtfmaflaoplkdbaaGreatDoorAlKt
import Derived.Test.YtfmaflaoplkdbaaGreatDoorAlKw
import Derived.Test.YtfmaflaoplkdbaaGreatDoorZfree
set_option linter.unusedSimpArgs false
set_option linter.unusedVariables false
set_option linter.unnecessarySimpa false
namespace Go.Proofs.YtfmaflaoplkdbaaGreatDoor.Au
open Go.RowKit Go.Proofs.YtfmaflaoplkdbaaGreatDoor.Crc Go.Proofs.YtfmaflaoplkdbaaGreatDoor.Cm Go.Proofs.YtfmaflaoplkdbaaGreatDoor.Tr
set_option linter.unusedSimpArgs false
set_option linter.unusedVariables false

/-- Where the batches and the answers lie. -/
structure KV where
  xx : Option Addr
  xm : Nat
  xc : Nat
  yx : Option Addr
  ym : Nat
  yc : Nat
  zx : Option Addr
  zm : Nat
  zc : Nat
  P0 : Nat
def KV.sl (V : KV) : Nat → Value
  | 0 => .slice V.xx V.xm V.xc
  | 1 => .slice V.yx V.ym V.yc
  | _ => .slice V.zx V.zm V.zc
/-- What a slot holds. -/
inductive Pc where
  | fn
  | sl (b : Nat)
  | call (s b : Nat)
  | dn (l : List Dn)
  | an (c code : Nat)
  | ans (l : List An)
  | to (t : To)
  | tos (l : List To)
  | fi (a b : Nat)
  | fis (l : List (Nat × Nat))
  | rk (r : List To × List (Nat × Nat))
  | rks
def Pc.holds (V : KV) : Pc → Value → World → Prop
  | .fn, v, _ => v = .func (.func 10) #[] #[]
  | .sl b, v, _ => v = V.sl b
  | .call s b, v, _ => v = .agg #[.int .u64 (s : Int), V.sl b]
  | .dn l, v, w => dnK.row w (Od w) v l
  | .an c code, v, _ => v = .agg #[.int .u32 (c : Int), .int .u32 1, .int .u8 (code : Int), .string ⟨#[]⟩]
  | .ans l, v, w => anK.row w (Od w) v l
  | .to t, v, w => ∃ va vd, v = .agg #[.int .i64 0, .int .i64 t.e, .int .i64 0, va, vd] ∧ anK.row w (Od w) va t.ans ∧ dnK.row w (Od w) vd t.done
  | .tos l, v, w => toK.row w (Od w) v l
  | .fi a b, v, _ => v = .agg #[.int .i64 (a : Int), .int .u8 (b : Int)]
  | .fis l, v, w => fnK.row w (Od w) v l
  | .rk r, v, w => ∃ vt vw, v = .agg #[vt, vw] ∧ toK.row w (Od w) vt r.1 ∧ fnK.row w (Od w) vw r.2
  | .rks, v, w => rkK.row w (Od w) v rowsK
theorem Pc.mono {V : KV} {w w' : World} {v : Value} : ∀ {p : Pc}, p.holds V v w → Upd [] w w' → p.holds V v w'
  | .fn, h, _ => h
  | .sl b, h, _ => h
  | .call s b, h, _ => h
  | .dn l, h, hu => Kind.grow (K := dnK) h hu
  | .an c code, h, _ => h
  | .ans l, h, hu => Kind.grow (K := anK) h hu
  | .to t, ⟨va, vd, h1, h2, h3⟩, hu => ⟨va, vd, h1, Kind.grow h2 hu, Kind.grow h3 hu⟩
  | .tos l, h, hu => Kind.grow (K := toK) h hu
  | .fi a b, h, _ => h
  | .fis l, h, hu => Kind.grow (K := fnK) h hu
  | .rk r, ⟨vt, vw, h1, h2, h3⟩, hu => ⟨vt, vw, h1, Kind.grow h2 hu, Kind.grow h3 hu⟩
  | .rks, h, hu => Kind.grow (K := rkK) h hu
def kPL : List Pc := [
  .rk ([], []),
  .to (⟨0, [], []⟩ : To),
  .fn,
  .sl 0,
  .call 1 0,
  .dn [(1, xA)],
  .an 1 0,
  .ans [ansA 1 0 []],
  .to (⟨0, [ansA 1 0 []], [(1, xA)]⟩ : To),
  .to (⟨0, [], []⟩ : To),
  .fn,
  .sl 1,
  .call 2 1,
  .dn [(2, yA)],
  .an 2 0,
  .ans [ansA 2 0 []],
  .to (⟨0, [ansA 2 0 []], [(2, yA)]⟩ : To),
  .tos [(⟨0, [], []⟩ : To), (⟨0, [ansA 1 0 []], [(1, xA)]⟩ : To), (⟨0, [], []⟩ : To), (⟨0, [ansA 2 0 []], [(2, yA)]⟩ : To)],
  .rk ([(⟨0, [], []⟩ : To), (⟨0, [ansA 1 0 []], [(1, xA)]⟩ : To), (⟨0, [], []⟩ : To), (⟨0, [ansA 2 0 []], [(2, yA)]⟩ : To)], []),
  .to (⟨0, [], []⟩ : To),
  .fn,
  .sl 0,
  .call 1 0,
  .dn [(1, xA)],
  .an 1 0,
  .ans [ansA 1 0 []],
  .to (⟨0, [ansA 1 0 []], [(1, xA)]⟩ : To),
  .to (⟨0, [], []⟩ : To),
  .fn,
  .sl 1,
  .call 1 1,
  .dn [(1, yA)],
  .an 2 0,
  .ans [ansA 2 0 []],
  .to (⟨0, [ansA 2 0 []], [(1, yA)]⟩ : To),
  .tos [(⟨0, [], []⟩ : To), (⟨0, [ansA 1 0 []], [(1, xA)]⟩ : To), (⟨0, [], []⟩ : To), (⟨0, [ansA 2 0 []], [(1, yA)]⟩ : To)],
  .fi 3 1,
  .fis [(3, 1)],
  .rk ([(⟨0, [], []⟩ : To), (⟨0, [ansA 1 0 []], [(1, xA)]⟩ : To), (⟨0, [], []⟩ : To), (⟨0, [ansA 2 0 []], [(1, yA)]⟩ : To)], [(3, 1)]),
  .to (⟨0, [], []⟩ : To),
  .fn,
  .sl 0,
  .call 1 0,
  .dn [(1, xA)],
  .an 1 0,
  .ans [ansA 1 0 []],
  .to (⟨0, [ansA 1 0 []], [(1, xA)]⟩ : To),
  .to (⟨0, [], []⟩ : To),
  .fn,
  .sl 0,
  .call 1 0,
  .dn [(1, xA)],
  .an 1 2,
  .ans [ansA 1 2 []],
  .to (⟨0, [ansA 1 2 []], [(1, xA)]⟩ : To),
  .tos [(⟨0, [], []⟩ : To), (⟨0, [ansA 1 0 []], [(1, xA)]⟩ : To), (⟨0, [], []⟩ : To), (⟨0, [ansA 1 2 []], [(1, xA)]⟩ : To)],
  .fi 3 2,
  .fis [(3, 2)],
  .rk ([(⟨0, [], []⟩ : To), (⟨0, [ansA 1 0 []], [(1, xA)]⟩ : To), (⟨0, [], []⟩ : To), (⟨0, [ansA 1 2 []], [(1, xA)]⟩ : To)], [(3, 2)]),
  .to (⟨0, [], []⟩ : To),
  .fn,
  .sl 0,
  .call 1 0,
  .dn [(1, xA)],
  .an 1 0,
  .ans [ansA 1 0 []],
  .to (⟨0, [ansA 1 0 []], [(1, xA)]⟩ : To),
  .to (⟨0, [], []⟩ : To),
  .fn,
  .sl 0,
  .call 1 0,
  .dn [(1, xA)],
  .an 1 3,
  .ans [ansA 1 3 []],
  .to (⟨0, [ansA 1 3 []], [(1, xA)]⟩ : To),
  .tos [(⟨0, [], []⟩ : To), (⟨0, [ansA 1 0 []], [(1, xA)]⟩ : To), (⟨0, [], []⟩ : To), (⟨0, [ansA 1 3 []], [(1, xA)]⟩ : To)],
  .rk ([(⟨0, [], []⟩ : To), (⟨0, [ansA 1 0 []], [(1, xA)]⟩ : To), (⟨0, [], []⟩ : To), (⟨0, [ansA 1 3 []], [(1, xA)]⟩ : To)], []),
  .to (⟨0, [], []⟩ : To),
  .fn,
  .sl 1,
  .call 1 1,
  .dn [(1, yA)],
  .an 2 0,
  .ans [ansA 2 0 []],
  .to (⟨0, [ansA 2 0 []], [(1, yA)]⟩ : To),
  .tos [(⟨0, [], []⟩ : To), (⟨0, [ansA 2 0 []], [(1, yA)]⟩ : To)],
  .fi 1 3,
  .fis [(1, 3)],
  .rk ([(⟨0, [], []⟩ : To), (⟨0, [ansA 2 0 []], [(1, yA)]⟩ : To)], [(1, 3)]),
  .to (⟨40, [], []⟩ : To),
  .fn,
  .sl 0,
  .call 1 0,
  .dn [(1, xA)],
  .an 1 0,
  .ans [ansA 1 0 []],
  .to (⟨0, [ansA 1 0 []], [(1, xA)]⟩ : To),
  .tos [(⟨40, [], []⟩ : To), (⟨0, [ansA 1 0 []], [(1, xA)]⟩ : To)],
  .fi 1 3,
  .fis [(1, 3)],
  .rk ([(⟨40, [], []⟩ : To), (⟨0, [ansA 1 0 []], [(1, xA)]⟩ : To)], [(1, 3)]),
  .to (⟨21, [], []⟩ : To),
  .fn,
  .sl 0,
  .call 1 0,
  .dn [(1, xA)],
  .an 1 0,
  .ans [ansA 1 0 []],
  .to (⟨0, [ansA 1 0 []], [(1, xA)]⟩ : To),
  .tos [(⟨21, [], []⟩ : To), (⟨0, [ansA 1 0 []], [(1, xA)]⟩ : To)],
  .rk ([(⟨21, [], []⟩ : To), (⟨0, [ansA 1 0 []], [(1, xA)]⟩ : To)], []),
  .to (⟨0, [], []⟩ : To),
  .to (⟨0, [], []⟩ : To),
  .to (⟨0, [], []⟩ : To),
  .fn,
  .sl 0,
  .call 1 0,
  .fn,
  .sl 1,
  .call 3 1,
  .dn [(1, xA), (3, yA)],
  .an 1 0,
  .an 2 0,
  .ans [ansA 1 0 [], ansA 2 0 []],
  .to (⟨0, [ansA 1 0 [], ansA 2 0 []], [(1, xA), (3, yA)]⟩ : To),
  .tos [(⟨0, [], []⟩ : To), (⟨0, [], []⟩ : To), (⟨0, [], []⟩ : To), (⟨0, [ansA 1 0 [], ansA 2 0 []], [(1, xA), (3, yA)]⟩ : To)],
  .fi 3 4,
  .fis [(3, 4)],
  .rk ([(⟨0, [], []⟩ : To), (⟨0, [], []⟩ : To), (⟨0, [], []⟩ : To), (⟨0, [ansA 1 0 [], ansA 2 0 []], [(1, xA), (3, yA)]⟩ : To)], [(3, 4)]),
  .to (⟨0, [], []⟩ : To),
  .fn,
  .sl 0,
  .call 1 0,
  .dn [(1, xA)],
  .an 1 2,
  .ans [ansA 1 2 []],
  .to (⟨0, [ansA 1 2 []], [(1, xA)]⟩ : To),
  .tos [(⟨0, [], []⟩ : To), (⟨0, [ansA 1 2 []], [(1, xA)]⟩ : To)],
  .fi 1 5,
  .fis [(1, 5)],
  .rk ([(⟨0, [], []⟩ : To), (⟨0, [ansA 1 2 []], [(1, xA)]⟩ : To)], [(1, 5)]),
  .to (⟨0, [], []⟩ : To),
  .fn,
  .sl 0,
  .call 1 0,
  .dn [(1, xA)],
  .to (⟨0, [], [(1, xA)]⟩ : To),
  .tos [(⟨0, [], []⟩ : To), (⟨0, [], [(1, xA)]⟩ : To)],
  .fi 1 5,
  .fis [(1, 5)],
  .rk ([(⟨0, [], []⟩ : To), (⟨0, [], [(1, xA)]⟩ : To)], [(1, 5)]),
  .to (⟨0, [], []⟩ : To),
  .fn,
  .sl 0,
  .call 2 0,
  .dn [(2, xA)],
  .an 1 0,
  .ans [ansA 1 0 []],
  .to (⟨0, [ansA 1 0 []], [(2, xA)]⟩ : To),
  .to (⟨0, [], []⟩ : To),
  .fn,
  .sl 1,
  .call 1 1,
  .dn [(1, yA)],
  .an 2 0,
  .ans [ansA 2 0 []],
  .to (⟨0, [ansA 2 0 []], [(1, yA)]⟩ : To),
  .tos [(⟨0, [], []⟩ : To), (⟨0, [ansA 1 0 []], [(2, xA)]⟩ : To), (⟨0, [], []⟩ : To), (⟨0, [ansA 2 0 []], [(1, yA)]⟩ : To)],
  .fi 2 6,
  .fis [(2, 6)],
  .rk ([(⟨0, [], []⟩ : To), (⟨0, [ansA 1 0 []], [(2, xA)]⟩ : To), (⟨0, [], []⟩ : To), (⟨0, [ansA 2 0 []], [(1, yA)]⟩ : To)], [(2, 6)]),
  .to (⟨0, [], []⟩ : To),
  .to (⟨0, [], []⟩ : To),
  .to (⟨0, [], []⟩ : To),
  .fn,
  .sl 2,
  .call 1 2,
  .dn [(1, xyA)],
  .an 1 0,
  .an 2 0,
  .ans [ansA 1 0 [], ansA 2 0 []],
  .to (⟨0, [ansA 1 0 [], ansA 2 0 []], [(1, xyA)]⟩ : To),
  .fn,
  .sl 2,
  .call 1 2,
  .dn [(1, xyA)],
  .to (⟨0, [], [(1, xyA)]⟩ : To),
  .tos [(⟨0, [], []⟩ : To), (⟨0, [], []⟩ : To), (⟨0, [], []⟩ : To), (⟨0, [ansA 1 0 [], ansA 2 0 []], [(1, xyA)]⟩ : To), (⟨0, [], [(1, xyA)]⟩ : To)],
  .rk ([(⟨0, [], []⟩ : To), (⟨0, [], []⟩ : To), (⟨0, [], []⟩ : To), (⟨0, [ansA 1 0 [], ansA 2 0 []], [(1, xyA)]⟩ : To), (⟨0, [], [(1, xyA)]⟩ : To)], []),
  .rks,
  .rks]
def kdst (i : Nat) : Nat := if i < 190 then 53 + i else 15
def kPr (V : KV) (i : Nat) (v : Value) (w : World) : Prop := (kPL[i]?.getD .fn).holds V v w
noncomputable def knOps : Array Oper := Kv.findOps 10 ((Tryz.f3.body).getD .skip)
theorem knOps_size : knOps.size = 191 := by kernel_rfl
structure KnL (V : KV) (L : List Value) : Prop where
  len : L.length = 285
  s3 : L[3]? = some (V.sl 0)
  s5 : L[5]? = some (V.sl 1)
  s7 : L[7]? = some (V.sl 2)
  s9 : L[9]? = some (.func (.func 10) #[] #[])
  s10 : L[10]? = some (.pointer (some ⟨V.P0, 0, none⟩))
  s11 : L[11]? = some (.pointer (some ⟨V.P0 + 1, 0, none⟩))
  s12 : L[12]? = some (.pointer (some ⟨V.P0 + 1 + 1, 0, none⟩))
  s13 : L[13]? = some (.pointer (some ⟨V.P0 + 1 + 1 + 1, 0, none⟩))
structure KnB (V : KV) (w0 : World) : Prop where
  p : AnB w0 V.P0 1 0
  q : AnB w0 (V.P0 + 1) 2 0
  wr : AnB w0 (V.P0 + 1 + 1) 1 2
  ol : AnB w0 (V.P0 + 1 + 1 + 1) 1 3
  bx : Bts w0 (Od w0) (V.sl 0) xA
  by' : Bts w0 (Od w0) (V.sl 1) yA
  bz : Bts w0 (Od w0) (V.sl 2) xyA
/-- What is known where operation i comes up. -/
structure Cx (V : KV) (L : List Value) (w0 : World) (i : Nat) (o : Oper) (f : Nat → Option Value) (w : World) : Prop where
  ho : knOps[i]? = some o
  dst : o.dst = some (kdst i)
  upd : Upd [] w0 w
  aft : ∀ e ∈ o.after, Region.binds .any e = true → ∃ v, f (kdst e.on) = some v ∧ kPr V e.on v w
  rest : ∀ s, (∀ j, j < knOps.size → kdst j ≠ s) → f s = none
section
variable {V : KV} {L : List Value} {w0 : World} {i : Nat} {o : Oper} {f : Nat → Option Value} {w : World}
theorem Cx.op {p : Op} (h : Cx V L w0 i o f w) (hp : (knOps[i]?).map (·.op) = some p) : o.op = p := by
  rw [h.ho] at hp
  simpa using hp
theorem Cx.tmp (h : Cx V L w0 i o f w) (hL : L.length = 285) (j : Nat) (hj : (knOps[i]?).map (fun o => o.after.any fun e => Region.binds .any e && Nat.beq e.on j) = some true) (k : Nat) (hk : kdst j = k) (hk2 : k < 285) : ∃ v, (actF L [] f).tmps[k]?.getD undef = v ∧ kPr V j v w := by
  rw [h.ho] at hj
  simp only [Option.map_some, Option.some.injEq] at hj
  obtain ⟨e, he, hb⟩ := Array.any_eq_true'.1 hj
  simp only [Bool.and_eq_true] at hb
  have hej : e.on = j := Nat.eq_of_beq_eq_true hb.2
  obtain ⟨v, h1, h2⟩ := h.aft e he hb.1
  rw [hej, hk] at h1
  rw [hej] at h2
  refine ⟨v, ?_, h2⟩
  have := actF_some (D := []) (L := L) (f := f) (k := k) (by omega) h1
  rw [← this]
  show _ = (setL f 0 L).toArray.getD k undef
  rw [Array.getD_eq_getD_getElem?]
  rfl
theorem kdst_rest {s : Nat} (h : (decide (53 ≤ s) && decide (s ≤ 242) || decide (s = 15)) = false) : ∀ j, j < knOps.size → kdst j ≠ s := by
  intro j hj
  rw [knOps_size] at hj
  simp only [Bool.or_eq_false_iff, Bool.and_eq_false_iff, decide_eq_false_iff_not] at h
  unfold kdst
  split <;> omega
theorem Cx.base {v : Value} {k : Nat} (h : Cx V L w0 i o f w) (hL : L.length = 285) (hk : L[k]? = some v) (hk2 : (decide (53 ≤ k) && decide (k ≤ 242) || decide (k = 15)) = false) : (actF L [] f).tmps[k]?.getD undef = v := by
  have := actF_none (D := []) (L := L) (f := f) hk (h.rest k (kdst_rest hk2))
  rw [← this]
  show _ = (setL f 0 L).toArray.getD k undef
  rw [Array.getD_eq_getD_getElem?]
  rfl
end
def StepK (V : KV) (L : List Value) (w0 : World) (i : Nat) : Prop := ∀ (o : Oper) (f : Nat → Option Value) (w : World) (K : Act → World → Prop) (Q : Exit → Act → World → Prop), Cx V L w0 i o f w →
  (∀ v w', kPr V i v w' → Upd [] w w' → K ((actF L [] f).put (some (kdst i)) v) w') → o.wp Tryz.prog (actF L [] f) w K Q
theorem all_succ {P : Nat → Prop} {n : Nat} (h : ∀ i, i < n → P i) (hn : P n) : ∀ i, i < n + 1 → P i := fun i hi => by
  rcases Nat.lt_or_ge i n with h1 | h1
  · exact h i h1
  · rw [show i = n by omega]; exact hn
section
variable {o : Oper} {a : Act} {w : World} {K : Act → World → Prop} {Q : Exit → Act → World → Prop}
set_option maxRecDepth 100000 in
theorem st_rows {k0 k1 k2 k3 k4 k5 k6 k7 k8 k9 k10 k11 k12 : Nat} {x0 y0 x1 y1 x2 y2 x3 y3 x4 y4 x5 y5 x6 y6 x7 y7 x8 y8 x9 y9 x10 y10 x11 y11 x12 y12 : Option Addr} {m0 c0 n0 e0 m1 c1 n1 e1 m2 c2 n2 e2 m3 c3 n3 e3 m4 c4 n4 e4 m5 c5 n5 e5 m6 c6 n6 e6 m7 c7 n7 e7 m8 c8 n8 e8 m9 c9 n9 e9 m10 c10 n10 e10 m11 c11 n11 e11 m12 c12 n12 e12 : Nat} (ho : o.op = .buildSlice 52 13 #[(0, .tmp k0), (1, .tmp k1), (2, .tmp k2), (3, .tmp k3), (4, .tmp k4), (5, .tmp k5), (6, .tmp k6), (7, .tmp k7), (8, .tmp k8), (9, .tmp k9), (10, .tmp k10), (11, .tmp k11), (12, .tmp k12)]) (h0 : a.tmps[k0]?.getD undef = .agg #[.slice x0 m0 c0, .slice y0 n0 e0]) (h1 : a.tmps[k1]?.getD undef = .agg #[.slice x1 m1 c1, .slice y1 n1 e1]) (h2 : a.tmps[k2]?.getD undef = .agg #[.slice x2 m2 c2, .slice y2 n2 e2]) (h3 : a.tmps[k3]?.getD undef = .agg #[.slice x3 m3 c3, .slice y3 n3 e3]) (h4 : a.tmps[k4]?.getD undef = .agg #[.slice x4 m4 c4, .slice y4 n4 e4]) (h5 : a.tmps[k5]?.getD undef = .agg #[.slice x5 m5 c5, .slice y5 n5 e5]) (h6 : a.tmps[k6]?.getD undef = .agg #[.slice x6 m6 c6, .slice y6 n6 e6]) (h7 : a.tmps[k7]?.getD undef = .agg #[.slice x7 m7 c7, .slice y7 n7 e7]) (h8 : a.tmps[k8]?.getD undef = .agg #[.slice x8 m8 c8, .slice y8 n8 e8]) (h9 : a.tmps[k9]?.getD undef = .agg #[.slice x9 m9 c9, .slice y9 n9 e9]) (h10 : a.tmps[k10]?.getD undef = .agg #[.slice x10 m10 c10, .slice y10 n10 e10]) (h11 : a.tmps[k11]?.getD undef = .agg #[.slice x11 m11 c11, .slice y11 n11 e11]) (h12 : a.tmps[k12]?.getD undef = .agg #[.slice x12 m12 c12, .slice y12 n12 e12]) (h : K (a.put o.dst (.slice (some ⟨w.heap.size, 0, none⟩) 13 13)) (w.alloc (.cells #[.slice x0 m0 c0, .slice y0 n0 e0, .slice x1 m1 c1, .slice y1 n1 e1, .slice x2 m2 c2, .slice y2 n2 e2, .slice x3 m3 c3, .slice y3 n3 e3, .slice x4 m4 c4, .slice y4 n4 e4, .slice x5 m5 c5, .slice y5 n5 e5, .slice x6 m6 c6, .slice y6 n6 e6, .slice x7 m7 c7, .slice y7 n7 e7, .slice x8 m8 c8, .slice y8 n8 e8, .slice x9 m9 c9, .slice y9 n9 e9, .slice x10 m10 c10, .slice y10 n10 e10, .slice x11 m11 c11, .slice y11 n11 e11, .slice x12 m12 c12, .slice y12 n12 e12] 45))) : o.wp Tryz.prog a w K Q := by
  obtain ⟨d, op, ty, pos, af, g⟩ := o
  simp only at ho
  subst ho
  go_simp
  exact h
end
section
variable {V : KV} {L : List Value} {w0 : World}
set_option maxRecDepth 100000 in
theorem kp_0 (hL : KnL V L) (hB : KnB V w0) : StepK V L w0 0 := by
  intro o f w K Q cx hK
  refine st_rk0 (cx.op (p := .build 45 #[(0, .const (.slice none 0 0)), (1, .const (.slice none 0 0))]) (by kernel_rfl)) ?_
  rw [cx.dst]
  exact hK _ w ⟨_, _, rfl, toK.row_nil _ _, fnK.row_nil _ _⟩ (Upd.refl [] w)
set_option maxRecDepth 100000 in
theorem kp_1 (hL : KnL V L) (hB : KnB V w0) : StepK V L w0 1 := by
  intro o f w K Q cx hK
  refine st_to0 (cx.op (p := .build 49 #[]) (by kernel_rfl)) ?_
  rw [cx.dst]
  exact hK _ w ⟨_, _, rfl, anK.row_nil _ _, dnK.row_nil _ _⟩ (Upd.refl [] w)
set_option maxRecDepth 100000 in
theorem kp_2 (hL : KnL V L) (hB : KnB V w0) : StepK V L w0 2 := by
  intro o f w K Q cx hK
  refine st_move (cx.op (p := .move (.tmp 9)) (by kernel_rfl)) (cx.base hL.len hL.s9 (by decide)) ?_
  rw [cx.dst]
  exact hK _ w rfl (Upd.refl [] w)
set_option maxRecDepth 100000 in
theorem kp_3 (hL : KnL V L) (hB : KnB V w0) : StepK V L w0 3 := by
  intro o f w K Q cx hK
  refine st_move (cx.op (p := .move (.tmp 3)) (by kernel_rfl)) (cx.base hL.len hL.s3 (by decide)) ?_
  rw [cx.dst]
  exact hK _ w rfl (Upd.refl [] w)
set_option maxRecDepth 100000 in
theorem kp_4 (hL : KnL V L) (hB : KnB V w0) : StepK V L w0 4 := by
  intro o f w K Q cx hK
  obtain ⟨a, ah, ap⟩ := cx.tmp hL.len 2 (by kernel_rfl) 55 rfl (by decide)
  obtain ⟨b, bh, bp⟩ := cx.tmp hL.len 3 (by kernel_rfl) 56 rfl (by decide)
  have ae : a = .func (.func 10) #[] #[] := ap
  have be : b = V.sl 0 := bp
  subst ae be
  refine st_call (s := 1) (x0 := V.xx) (m0 := V.xm) (c0 := V.xc) (cx.op (p := .call { callee := .value (.tmp 55), args := #[.const (.int .u64 1), .tmp 56], argTypes := #[32, 27] }) (by kernel_rfl)) ah bh fun w' hu => ?_
  rw [cx.dst]
  exact hK _ w' rfl hu
set_option maxRecDepth 100000 in
theorem kp_5 (hL : KnL V L) (hB : KnB V w0) : StepK V L w0 5 := by
  intro o f w K Q cx hK
  obtain ⟨a, ah, ap⟩ := cx.tmp hL.len 4 (by kernel_rfl) 57 rfl (by decide)
  have ae : a = .agg #[.int .u64 1, V.sl 0] := ap
  subst ae
  refine st_dn1 (s := 1) (x0 := V.xx) (m0 := V.xm) (c0 := V.xc) (cx.op (p := .buildSlice 47 1 #[(0, .tmp 57)]) (by kernel_rfl)) ah ?_
  rw [cx.dst]
  exact hK _ _ (Kind.put (K := dnK) (l := [(1, xA)]) (css := [dnc 1 (V.sl 0)]) (.cons (dn_holds (by decide) (Bts.grow hB.bx cx.upd)) (.nil)) rfl (by decide)) ((Upd.refl [] w).alloc _)
set_option maxRecDepth 100000 in
theorem kp_6 (hL : KnL V L) (hB : KnB V w0) : StepK V L w0 6 := by
  intro o f w K Q cx hK
  refine st_load (s := 1) (e := 0) (cx.op (p := .load 39 (.tmp 10)) (by kernel_rfl)) (cx.base hL.len hL.s10 (by decide)) (hB.p.upd_nil' cx.upd) ?_
  rw [cx.dst]
  exact hK _ w rfl (Upd.refl [] w)
set_option maxRecDepth 100000 in
theorem kp_7 (hL : KnL V L) (hB : KnB V w0) : StepK V L w0 7 := by
  intro o f w K Q cx hK
  obtain ⟨a, ah, ap⟩ := cx.tmp hL.len 6 (by kernel_rfl) 59 rfl (by decide)
  have ae : a = .agg #[.int .u32 1, .int .u32 1, .int .u8 0, .string ⟨#[]⟩] := ap
  subst ae
  refine st_an1 (s := 1) (e := 0) (cx.op (p := .buildSlice 46 1 #[(0, .tmp 59)]) (by kernel_rfl)) ah ?_
  rw [cx.dst]
  exact hK _ _ (Kind.put (K := anK) (l := [ansA 1 0 []]) (css := [anc (ansA 1 0 [])]) (.cons (an_holds (by decide)) (.nil)) rfl (by decide)) ((Upd.refl [] w).alloc _)
set_option maxRecDepth 100000 in
theorem kp_8 (hL : KnL V L) (hB : KnB V w0) : StepK V L w0 8 := by
  intro o f w K Q cx hK
  obtain ⟨a, ah, ap⟩ := cx.tmp hL.len 5 (by kernel_rfl) 58 rfl (by decide)
  obtain ⟨b, bh, bp⟩ := cx.tmp hL.len 7 (by kernel_rfl) 60 rfl (by decide)
  have ar : dnK.row w (Od w) a [(1, xA)] := ap
  have br : anK.row w (Od w) b [ansA 1 0 []] := bp
  obtain ⟨x, c, rfl, -, -⟩ := Row.slice ar
  obtain ⟨y, d, rfl, -, -⟩ := Row.slice br
  refine st_to2 (cx.op (p := .build 49 #[(4, .tmp 58), (3, .tmp 60)]) (by kernel_rfl)) ah bh ?_
  rw [cx.dst]
  exact hK _ w ⟨_, _, rfl, br, ar⟩ (Upd.refl [] w)
set_option maxRecDepth 100000 in
theorem kp_9 (hL : KnL V L) (hB : KnB V w0) : StepK V L w0 9 := by
  intro o f w K Q cx hK
  refine st_to0 (cx.op (p := .build 49 #[]) (by kernel_rfl)) ?_
  rw [cx.dst]
  exact hK _ w ⟨_, _, rfl, anK.row_nil _ _, dnK.row_nil _ _⟩ (Upd.refl [] w)
set_option maxRecDepth 100000 in
theorem kp_10 (hL : KnL V L) (hB : KnB V w0) : StepK V L w0 10 := by
  intro o f w K Q cx hK
  refine st_move (cx.op (p := .move (.tmp 9)) (by kernel_rfl)) (cx.base hL.len hL.s9 (by decide)) ?_
  rw [cx.dst]
  exact hK _ w rfl (Upd.refl [] w)
set_option maxRecDepth 100000 in
theorem kp_11 (hL : KnL V L) (hB : KnB V w0) : StepK V L w0 11 := by
  intro o f w K Q cx hK
  refine st_move (cx.op (p := .move (.tmp 5)) (by kernel_rfl)) (cx.base hL.len hL.s5 (by decide)) ?_
  rw [cx.dst]
  exact hK _ w rfl (Upd.refl [] w)
set_option maxRecDepth 100000 in
theorem kp_12 (hL : KnL V L) (hB : KnB V w0) : StepK V L w0 12 := by
  intro o f w K Q cx hK
  obtain ⟨a, ah, ap⟩ := cx.tmp hL.len 10 (by kernel_rfl) 63 rfl (by decide)
  obtain ⟨b, bh, bp⟩ := cx.tmp hL.len 11 (by kernel_rfl) 64 rfl (by decide)
  have ae : a = .func (.func 10) #[] #[] := ap
  have be : b = V.sl 1 := bp
  subst ae be
  refine st_call (s := 2) (x0 := V.yx) (m0 := V.ym) (c0 := V.yc) (cx.op (p := .call { callee := .value (.tmp 63), args := #[.const (.int .u64 2), .tmp 64], argTypes := #[32, 27] }) (by kernel_rfl)) ah bh fun w' hu => ?_
  rw [cx.dst]
  exact hK _ w' rfl hu
set_option maxRecDepth 100000 in
theorem kp_13 (hL : KnL V L) (hB : KnB V w0) : StepK V L w0 13 := by
  intro o f w K Q cx hK
  obtain ⟨a, ah, ap⟩ := cx.tmp hL.len 12 (by kernel_rfl) 65 rfl (by decide)
  have ae : a = .agg #[.int .u64 2, V.sl 1] := ap
  subst ae
  refine st_dn1 (s := 2) (x0 := V.yx) (m0 := V.ym) (c0 := V.yc) (cx.op (p := .buildSlice 47 1 #[(0, .tmp 65)]) (by kernel_rfl)) ah ?_
  rw [cx.dst]
  exact hK _ _ (Kind.put (K := dnK) (l := [(2, yA)]) (css := [dnc 2 (V.sl 1)]) (.cons (dn_holds (by decide) (Bts.grow hB.by' cx.upd)) (.nil)) rfl (by decide)) ((Upd.refl [] w).alloc _)
set_option maxRecDepth 100000 in
theorem kp_14 (hL : KnL V L) (hB : KnB V w0) : StepK V L w0 14 := by
  intro o f w K Q cx hK
  refine st_load (s := 2) (e := 0) (cx.op (p := .load 39 (.tmp 11)) (by kernel_rfl)) (cx.base hL.len hL.s11 (by decide)) (hB.q.upd_nil' cx.upd) ?_
  rw [cx.dst]
  exact hK _ w rfl (Upd.refl [] w)
set_option maxRecDepth 100000 in
theorem kp_15 (hL : KnL V L) (hB : KnB V w0) : StepK V L w0 15 := by
  intro o f w K Q cx hK
  obtain ⟨a, ah, ap⟩ := cx.tmp hL.len 14 (by kernel_rfl) 67 rfl (by decide)
  have ae : a = .agg #[.int .u32 2, .int .u32 1, .int .u8 0, .string ⟨#[]⟩] := ap
  subst ae
  refine st_an1 (s := 2) (e := 0) (cx.op (p := .buildSlice 46 1 #[(0, .tmp 67)]) (by kernel_rfl)) ah ?_
  rw [cx.dst]
  exact hK _ _ (Kind.put (K := anK) (l := [ansA 2 0 []]) (css := [anc (ansA 2 0 [])]) (.cons (an_holds (by decide)) (.nil)) rfl (by decide)) ((Upd.refl [] w).alloc _)
set_option maxRecDepth 100000 in
theorem kp_16 (hL : KnL V L) (hB : KnB V w0) : StepK V L w0 16 := by
  intro o f w K Q cx hK
  obtain ⟨a, ah, ap⟩ := cx.tmp hL.len 13 (by kernel_rfl) 66 rfl (by decide)
  obtain ⟨b, bh, bp⟩ := cx.tmp hL.len 15 (by kernel_rfl) 68 rfl (by decide)
  have ar : dnK.row w (Od w) a [(2, yA)] := ap
  have br : anK.row w (Od w) b [ansA 2 0 []] := bp
  obtain ⟨x, c, rfl, -, -⟩ := Row.slice ar
  obtain ⟨y, d, rfl, -, -⟩ := Row.slice br
  refine st_to2 (cx.op (p := .build 49 #[(4, .tmp 66), (3, .tmp 68)]) (by kernel_rfl)) ah bh ?_
  rw [cx.dst]
  exact hK _ w ⟨_, _, rfl, br, ar⟩ (Upd.refl [] w)
set_option maxRecDepth 100000 in
theorem kp_17 (hL : KnL V L) (hB : KnB V w0) : StepK V L w0 17 := by
  intro o f w K Q cx hK
  obtain ⟨u0, u0h, u0p⟩ := cx.tmp hL.len 1 (by kernel_rfl) 54 rfl (by decide)
  obtain ⟨u0a, u0d, rfl, u0va, u0vd⟩ : ∃ va vd, u0 = .agg #[.int .i64 0, .int .i64 0, .int .i64 0, va, vd] ∧ anK.row w (Od w) va [] ∧ dnK.row w (Od w) vd [] := u0p
  obtain ⟨u0x, u0m, rfl, -, -⟩ := Row.slice u0va
  obtain ⟨u0u, u0n, rfl, -, -⟩ := Row.slice u0vd
  obtain ⟨u1, u1h, u1p⟩ := cx.tmp hL.len 8 (by kernel_rfl) 61 rfl (by decide)
  obtain ⟨u1a, u1d, rfl, u1va, u1vd⟩ : ∃ va vd, u1 = .agg #[.int .i64 0, .int .i64 0, .int .i64 0, va, vd] ∧ anK.row w (Od w) va [ansA 1 0 []] ∧ dnK.row w (Od w) vd [(1, xA)] := u1p
  obtain ⟨u1x, u1m, rfl, -, -⟩ := Row.slice u1va
  obtain ⟨u1u, u1n, rfl, -, -⟩ := Row.slice u1vd
  obtain ⟨u2, u2h, u2p⟩ := cx.tmp hL.len 9 (by kernel_rfl) 62 rfl (by decide)
  obtain ⟨u2a, u2d, rfl, u2va, u2vd⟩ : ∃ va vd, u2 = .agg #[.int .i64 0, .int .i64 0, .int .i64 0, va, vd] ∧ anK.row w (Od w) va [] ∧ dnK.row w (Od w) vd [] := u2p
  obtain ⟨u2x, u2m, rfl, -, -⟩ := Row.slice u2va
  obtain ⟨u2u, u2n, rfl, -, -⟩ := Row.slice u2vd
  obtain ⟨u3, u3h, u3p⟩ := cx.tmp hL.len 16 (by kernel_rfl) 69 rfl (by decide)
  obtain ⟨u3a, u3d, rfl, u3va, u3vd⟩ : ∃ va vd, u3 = .agg #[.int .i64 0, .int .i64 0, .int .i64 0, va, vd] ∧ anK.row w (Od w) va [ansA 2 0 []] ∧ dnK.row w (Od w) vd [(2, yA)] := u3p
  obtain ⟨u3x, u3m, rfl, -, -⟩ := Row.slice u3va
  obtain ⟨u3u, u3n, rfl, -, -⟩ := Row.slice u3vd
  refine st_tos4 (cx.op (p := .buildSlice 43 4 #[(0, .tmp 54), (1, .tmp 61), (2, .tmp 62), (3, .tmp 69)]) (by kernel_rfl)) u0h u1h u2h u3h ?_
  rw [cx.dst]
  exact hK _ _ (Kind.put (K := toK) (l := [(⟨0, [], []⟩ : To), (⟨0, [ansA 1 0 []], [(1, xA)]⟩ : To), (⟨0, [], []⟩ : To), (⟨0, [ansA 2 0 []], [(2, yA)]⟩ : To)]) (css := [toc 0 (.slice u0x ([] : List An).length u0m) (.slice u0u ([] : List Dn).length u0n), toc 0 (.slice u1x ([ansA 1 0 []] : List An).length u1m) (.slice u1u ([(1, xA)] : List Dn).length u1n), toc 0 (.slice u2x ([] : List An).length u2m) (.slice u2u ([] : List Dn).length u2n), toc 0 (.slice u3x ([ansA 2 0 []] : List An).length u3m) (.slice u3u ([(2, yA)] : List Dn).length u3n)]) (.cons (to_holds (t := (⟨0, [], []⟩ : To)) u0va u0vd) (.cons (to_holds (t := (⟨0, [ansA 1 0 []], [(1, xA)]⟩ : To)) u1va u1vd) (.cons (to_holds (t := (⟨0, [], []⟩ : To)) u2va u2vd) (.cons (to_holds (t := (⟨0, [ansA 2 0 []], [(2, yA)]⟩ : To)) u3va u3vd) (.nil))))) rfl (by decide)) ((Upd.refl [] w).alloc _)
set_option maxRecDepth 100000 in
theorem kp_18 (hL : KnL V L) (hB : KnB V w0) : StepK V L w0 18 := by
  intro o f w K Q cx hK
  obtain ⟨a, ah, ap⟩ := cx.tmp hL.len 17 (by kernel_rfl) 70 rfl (by decide)
  have ar : toK.row w (Od w) a [(⟨0, [], []⟩ : To), (⟨0, [ansA 1 0 []], [(1, xA)]⟩ : To), (⟨0, [], []⟩ : To), (⟨0, [ansA 2 0 []], [(2, yA)]⟩ : To)] := ap
  obtain ⟨x, c, rfl, -, -⟩ := Row.slice ar
  refine st_rk1 (cx.op (p := .build 45 #[(0, .tmp 70), (1, .const (.slice none 0 0))]) (by kernel_rfl)) ah ?_
  rw [cx.dst]
  exact hK _ w ⟨_, _, rfl, ar, fnK.row_nil _ _⟩ (Upd.refl [] w)
set_option maxRecDepth 100000 in
theorem kp_19 (hL : KnL V L) (hB : KnB V w0) : StepK V L w0 19 := by
  intro o f w K Q cx hK
  refine st_to0 (cx.op (p := .build 49 #[]) (by kernel_rfl)) ?_
  rw [cx.dst]
  exact hK _ w ⟨_, _, rfl, anK.row_nil _ _, dnK.row_nil _ _⟩ (Upd.refl [] w)
set_option maxRecDepth 100000 in
theorem kp_20 (hL : KnL V L) (hB : KnB V w0) : StepK V L w0 20 := by
  intro o f w K Q cx hK
  refine st_move (cx.op (p := .move (.tmp 9)) (by kernel_rfl)) (cx.base hL.len hL.s9 (by decide)) ?_
  rw [cx.dst]
  exact hK _ w rfl (Upd.refl [] w)
set_option maxRecDepth 100000 in
theorem kp_21 (hL : KnL V L) (hB : KnB V w0) : StepK V L w0 21 := by
  intro o f w K Q cx hK
  refine st_move (cx.op (p := .move (.tmp 3)) (by kernel_rfl)) (cx.base hL.len hL.s3 (by decide)) ?_
  rw [cx.dst]
  exact hK _ w rfl (Upd.refl [] w)
set_option maxRecDepth 100000 in
theorem kp_22 (hL : KnL V L) (hB : KnB V w0) : StepK V L w0 22 := by
  intro o f w K Q cx hK
  obtain ⟨a, ah, ap⟩ := cx.tmp hL.len 20 (by kernel_rfl) 73 rfl (by decide)
  obtain ⟨b, bh, bp⟩ := cx.tmp hL.len 21 (by kernel_rfl) 74 rfl (by decide)
  have ae : a = .func (.func 10) #[] #[] := ap
  have be : b = V.sl 0 := bp
  subst ae be
  refine st_call (s := 1) (x0 := V.xx) (m0 := V.xm) (c0 := V.xc) (cx.op (p := .call { callee := .value (.tmp 73), args := #[.const (.int .u64 1), .tmp 74], argTypes := #[32, 27] }) (by kernel_rfl)) ah bh fun w' hu => ?_
  rw [cx.dst]
  exact hK _ w' rfl hu
set_option maxRecDepth 100000 in
theorem kp_23 (hL : KnL V L) (hB : KnB V w0) : StepK V L w0 23 := by
  intro o f w K Q cx hK
  obtain ⟨a, ah, ap⟩ := cx.tmp hL.len 22 (by kernel_rfl) 75 rfl (by decide)
  have ae : a = .agg #[.int .u64 1, V.sl 0] := ap
  subst ae
  refine st_dn1 (s := 1) (x0 := V.xx) (m0 := V.xm) (c0 := V.xc) (cx.op (p := .buildSlice 47 1 #[(0, .tmp 75)]) (by kernel_rfl)) ah ?_
  rw [cx.dst]
  exact hK _ _ (Kind.put (K := dnK) (l := [(1, xA)]) (css := [dnc 1 (V.sl 0)]) (.cons (dn_holds (by decide) (Bts.grow hB.bx cx.upd)) (.nil)) rfl (by decide)) ((Upd.refl [] w).alloc _)
set_option maxRecDepth 100000 in
theorem kp_24 (hL : KnL V L) (hB : KnB V w0) : StepK V L w0 24 := by
  intro o f w K Q cx hK
  refine st_load (s := 1) (e := 0) (cx.op (p := .load 39 (.tmp 10)) (by kernel_rfl)) (cx.base hL.len hL.s10 (by decide)) (hB.p.upd_nil' cx.upd) ?_
  rw [cx.dst]
  exact hK _ w rfl (Upd.refl [] w)
set_option maxRecDepth 100000 in
theorem kp_25 (hL : KnL V L) (hB : KnB V w0) : StepK V L w0 25 := by
  intro o f w K Q cx hK
  obtain ⟨a, ah, ap⟩ := cx.tmp hL.len 24 (by kernel_rfl) 77 rfl (by decide)
  have ae : a = .agg #[.int .u32 1, .int .u32 1, .int .u8 0, .string ⟨#[]⟩] := ap
  subst ae
  refine st_an1 (s := 1) (e := 0) (cx.op (p := .buildSlice 46 1 #[(0, .tmp 77)]) (by kernel_rfl)) ah ?_
  rw [cx.dst]
  exact hK _ _ (Kind.put (K := anK) (l := [ansA 1 0 []]) (css := [anc (ansA 1 0 [])]) (.cons (an_holds (by decide)) (.nil)) rfl (by decide)) ((Upd.refl [] w).alloc _)
set_option maxRecDepth 100000 in
theorem kp_26 (hL : KnL V L) (hB : KnB V w0) : StepK V L w0 26 := by
  intro o f w K Q cx hK
  obtain ⟨a, ah, ap⟩ := cx.tmp hL.len 23 (by kernel_rfl) 76 rfl (by decide)
  obtain ⟨b, bh, bp⟩ := cx.tmp hL.len 25 (by kernel_rfl) 78 rfl (by decide)
  have ar : dnK.row w (Od w) a [(1, xA)] := ap
  have br : anK.row w (Od w) b [ansA 1 0 []] := bp
  obtain ⟨x, c, rfl, -, -⟩ := Row.slice ar
  obtain ⟨y, d, rfl, -, -⟩ := Row.slice br
  refine st_to2 (cx.op (p := .build 49 #[(4, .tmp 76), (3, .tmp 78)]) (by kernel_rfl)) ah bh ?_
  rw [cx.dst]
  exact hK _ w ⟨_, _, rfl, br, ar⟩ (Upd.refl [] w)
set_option maxRecDepth 100000 in
theorem kp_27 (hL : KnL V L) (hB : KnB V w0) : StepK V L w0 27 := by
  intro o f w K Q cx hK
  refine st_to0 (cx.op (p := .build 49 #[]) (by kernel_rfl)) ?_
  rw [cx.dst]
  exact hK _ w ⟨_, _, rfl, anK.row_nil _ _, dnK.row_nil _ _⟩ (Upd.refl [] w)
set_option maxRecDepth 100000 in
theorem kp_28 (hL : KnL V L) (hB : KnB V w0) : StepK V L w0 28 := by
  intro o f w K Q cx hK
  refine st_move (cx.op (p := .move (.tmp 9)) (by kernel_rfl)) (cx.base hL.len hL.s9 (by decide)) ?_
  rw [cx.dst]
  exact hK _ w rfl (Upd.refl [] w)
set_option maxRecDepth 100000 in
theorem kp_29 (hL : KnL V L) (hB : KnB V w0) : StepK V L w0 29 := by
  intro o f w K Q cx hK
  refine st_move (cx.op (p := .move (.tmp 5)) (by kernel_rfl)) (cx.base hL.len hL.s5 (by decide)) ?_
  rw [cx.dst]
  exact hK _ w rfl (Upd.refl [] w)
set_option maxRecDepth 100000 in
theorem kp_30 (hL : KnL V L) (hB : KnB V w0) : StepK V L w0 30 := by
  intro o f w K Q cx hK
  obtain ⟨a, ah, ap⟩ := cx.tmp hL.len 28 (by kernel_rfl) 81 rfl (by decide)
  obtain ⟨b, bh, bp⟩ := cx.tmp hL.len 29 (by kernel_rfl) 82 rfl (by decide)
  have ae : a = .func (.func 10) #[] #[] := ap
  have be : b = V.sl 1 := bp
  subst ae be
  refine st_call (s := 1) (x0 := V.yx) (m0 := V.ym) (c0 := V.yc) (cx.op (p := .call { callee := .value (.tmp 81), args := #[.const (.int .u64 1), .tmp 82], argTypes := #[32, 27] }) (by kernel_rfl)) ah bh fun w' hu => ?_
  rw [cx.dst]
  exact hK _ w' rfl hu
set_option maxRecDepth 100000 in
theorem kp_31 (hL : KnL V L) (hB : KnB V w0) : StepK V L w0 31 := by
  intro o f w K Q cx hK
  obtain ⟨a, ah, ap⟩ := cx.tmp hL.len 30 (by kernel_rfl) 83 rfl (by decide)
  have ae : a = .agg #[.int .u64 1, V.sl 1] := ap
  subst ae
  refine st_dn1 (s := 1) (x0 := V.yx) (m0 := V.ym) (c0 := V.yc) (cx.op (p := .buildSlice 47 1 #[(0, .tmp 83)]) (by kernel_rfl)) ah ?_
  rw [cx.dst]
  exact hK _ _ (Kind.put (K := dnK) (l := [(1, yA)]) (css := [dnc 1 (V.sl 1)]) (.cons (dn_holds (by decide) (Bts.grow hB.by' cx.upd)) (.nil)) rfl (by decide)) ((Upd.refl [] w).alloc _)
set_option maxRecDepth 100000 in
theorem kp_32 (hL : KnL V L) (hB : KnB V w0) : StepK V L w0 32 := by
  intro o f w K Q cx hK
  refine st_load (s := 2) (e := 0) (cx.op (p := .load 39 (.tmp 11)) (by kernel_rfl)) (cx.base hL.len hL.s11 (by decide)) (hB.q.upd_nil' cx.upd) ?_
  rw [cx.dst]
  exact hK _ w rfl (Upd.refl [] w)
set_option maxRecDepth 100000 in
theorem kp_33 (hL : KnL V L) (hB : KnB V w0) : StepK V L w0 33 := by
  intro o f w K Q cx hK
  obtain ⟨a, ah, ap⟩ := cx.tmp hL.len 32 (by kernel_rfl) 85 rfl (by decide)
  have ae : a = .agg #[.int .u32 2, .int .u32 1, .int .u8 0, .string ⟨#[]⟩] := ap
  subst ae
  refine st_an1 (s := 2) (e := 0) (cx.op (p := .buildSlice 46 1 #[(0, .tmp 85)]) (by kernel_rfl)) ah ?_
  rw [cx.dst]
  exact hK _ _ (Kind.put (K := anK) (l := [ansA 2 0 []]) (css := [anc (ansA 2 0 [])]) (.cons (an_holds (by decide)) (.nil)) rfl (by decide)) ((Upd.refl [] w).alloc _)
set_option maxRecDepth 100000 in
theorem kp_34 (hL : KnL V L) (hB : KnB V w0) : StepK V L w0 34 := by
  intro o f w K Q cx hK
  obtain ⟨a, ah, ap⟩ := cx.tmp hL.len 31 (by kernel_rfl) 84 rfl (by decide)
  obtain ⟨b, bh, bp⟩ := cx.tmp hL.len 33 (by kernel_rfl) 86 rfl (by decide)
  have ar : dnK.row w (Od w) a [(1, yA)] := ap
  have br : anK.row w (Od w) b [ansA 2 0 []] := bp
  obtain ⟨x, c, rfl, -, -⟩ := Row.slice ar
  obtain ⟨y, d, rfl, -, -⟩ := Row.slice br
  refine st_to2 (cx.op (p := .build 49 #[(4, .tmp 84), (3, .tmp 86)]) (by kernel_rfl)) ah bh ?_
  rw [cx.dst]
  exact hK _ w ⟨_, _, rfl, br, ar⟩ (Upd.refl [] w)
set_option maxRecDepth 100000 in
theorem kp_35 (hL : KnL V L) (hB : KnB V w0) : StepK V L w0 35 := by
  intro o f w K Q cx hK
  obtain ⟨u0, u0h, u0p⟩ := cx.tmp hL.len 19 (by kernel_rfl) 72 rfl (by decide)
  obtain ⟨u0a, u0d, rfl, u0va, u0vd⟩ : ∃ va vd, u0 = .agg #[.int .i64 0, .int .i64 0, .int .i64 0, va, vd] ∧ anK.row w (Od w) va [] ∧ dnK.row w (Od w) vd [] := u0p
  obtain ⟨u0x, u0m, rfl, -, -⟩ := Row.slice u0va
  obtain ⟨u0u, u0n, rfl, -, -⟩ := Row.slice u0vd
  obtain ⟨u1, u1h, u1p⟩ := cx.tmp hL.len 26 (by kernel_rfl) 79 rfl (by decide)
  obtain ⟨u1a, u1d, rfl, u1va, u1vd⟩ : ∃ va vd, u1 = .agg #[.int .i64 0, .int .i64 0, .int .i64 0, va, vd] ∧ anK.row w (Od w) va [ansA 1 0 []] ∧ dnK.row w (Od w) vd [(1, xA)] := u1p
  obtain ⟨u1x, u1m, rfl, -, -⟩ := Row.slice u1va
  obtain ⟨u1u, u1n, rfl, -, -⟩ := Row.slice u1vd
  obtain ⟨u2, u2h, u2p⟩ := cx.tmp hL.len 27 (by kernel_rfl) 80 rfl (by decide)
  obtain ⟨u2a, u2d, rfl, u2va, u2vd⟩ : ∃ va vd, u2 = .agg #[.int .i64 0, .int .i64 0, .int .i64 0, va, vd] ∧ anK.row w (Od w) va [] ∧ dnK.row w (Od w) vd [] := u2p
  obtain ⟨u2x, u2m, rfl, -, -⟩ := Row.slice u2va
  obtain ⟨u2u, u2n, rfl, -, -⟩ := Row.slice u2vd
  obtain ⟨u3, u3h, u3p⟩ := cx.tmp hL.len 34 (by kernel_rfl) 87 rfl (by decide)
  obtain ⟨u3a, u3d, rfl, u3va, u3vd⟩ : ∃ va vd, u3 = .agg #[.int .i64 0, .int .i64 0, .int .i64 0, va, vd] ∧ anK.row w (Od w) va [ansA 2 0 []] ∧ dnK.row w (Od w) vd [(1, yA)] := u3p
  obtain ⟨u3x, u3m, rfl, -, -⟩ := Row.slice u3va
  obtain ⟨u3u, u3n, rfl, -, -⟩ := Row.slice u3vd
  refine st_tos4 (cx.op (p := .buildSlice 43 4 #[(0, .tmp 72), (1, .tmp 79), (2, .tmp 80), (3, .tmp 87)]) (by kernel_rfl)) u0h u1h u2h u3h ?_
  rw [cx.dst]
  exact hK _ _ (Kind.put (K := toK) (l := [(⟨0, [], []⟩ : To), (⟨0, [ansA 1 0 []], [(1, xA)]⟩ : To), (⟨0, [], []⟩ : To), (⟨0, [ansA 2 0 []], [(1, yA)]⟩ : To)]) (css := [toc 0 (.slice u0x ([] : List An).length u0m) (.slice u0u ([] : List Dn).length u0n), toc 0 (.slice u1x ([ansA 1 0 []] : List An).length u1m) (.slice u1u ([(1, xA)] : List Dn).length u1n), toc 0 (.slice u2x ([] : List An).length u2m) (.slice u2u ([] : List Dn).length u2n), toc 0 (.slice u3x ([ansA 2 0 []] : List An).length u3m) (.slice u3u ([(1, yA)] : List Dn).length u3n)]) (.cons (to_holds (t := (⟨0, [], []⟩ : To)) u0va u0vd) (.cons (to_holds (t := (⟨0, [ansA 1 0 []], [(1, xA)]⟩ : To)) u1va u1vd) (.cons (to_holds (t := (⟨0, [], []⟩ : To)) u2va u2vd) (.cons (to_holds (t := (⟨0, [ansA 2 0 []], [(1, yA)]⟩ : To)) u3va u3vd) (.nil))))) rfl (by decide)) ((Upd.refl [] w).alloc _)
set_option maxRecDepth 100000 in
theorem kp_36 (hL : KnL V L) (hB : KnB V w0) : StepK V L w0 36 := by
  intro o f w K Q cx hK
  refine st_fi (s := 3) (e := 1) (cx.op (p := .build 51 #[(0, .const (.int .i64 3)), (1, .const (.int .u8 1))]) (by kernel_rfl)) ?_
  rw [cx.dst]
  exact hK _ w rfl (Upd.refl [] w)
set_option maxRecDepth 100000 in
theorem kp_37 (hL : KnL V L) (hB : KnB V w0) : StepK V L w0 37 := by
  intro o f w K Q cx hK
  obtain ⟨a, ah, ap⟩ := cx.tmp hL.len 36 (by kernel_rfl) 89 rfl (by decide)
  have ae : a = .agg #[.int .i64 3, .int .u8 1] := ap
  subst ae
  refine st_fis (s := 3) (e := 1) (cx.op (p := .buildSlice 44 1 #[(0, .tmp 89)]) (by kernel_rfl)) ah ?_
  rw [cx.dst]
  exact hK _ _ (Kind.put (K := fnK) (l := [(3, 1)]) (css := [[.int .i64 3, .int .u8 1]]) (.cons rfl .nil) rfl (by decide)) ((Upd.refl [] w).alloc _)
set_option maxRecDepth 100000 in
theorem kp_38 (hL : KnL V L) (hB : KnB V w0) : StepK V L w0 38 := by
  intro o f w K Q cx hK
  obtain ⟨a, ah, ap⟩ := cx.tmp hL.len 35 (by kernel_rfl) 88 rfl (by decide)
  have ar : toK.row w (Od w) a [(⟨0, [], []⟩ : To), (⟨0, [ansA 1 0 []], [(1, xA)]⟩ : To), (⟨0, [], []⟩ : To), (⟨0, [ansA 2 0 []], [(1, yA)]⟩ : To)] := ap
  obtain ⟨x, c, rfl, -, -⟩ := Row.slice ar
  obtain ⟨b, bh, bp⟩ := cx.tmp hL.len 37 (by kernel_rfl) 90 rfl (by decide)
  have br : fnK.row w (Od w) b [(3, 1)] := bp
  obtain ⟨y, d, rfl, -, -⟩ := Row.slice br
  refine st_rk2 (cx.op (p := .build 45 #[(0, .tmp 88), (1, .tmp 90)]) (by kernel_rfl)) ah bh ?_
  rw [cx.dst]
  exact hK _ w ⟨_, _, rfl, ar, br⟩ (Upd.refl [] w)
set_option maxRecDepth 100000 in
theorem kp_39 (hL : KnL V L) (hB : KnB V w0) : StepK V L w0 39 := by
  intro o f w K Q cx hK
  refine st_to0 (cx.op (p := .build 49 #[]) (by kernel_rfl)) ?_
  rw [cx.dst]
  exact hK _ w ⟨_, _, rfl, anK.row_nil _ _, dnK.row_nil _ _⟩ (Upd.refl [] w)
set_option maxRecDepth 100000 in
theorem kp_40 (hL : KnL V L) (hB : KnB V w0) : StepK V L w0 40 := by
  intro o f w K Q cx hK
  refine st_move (cx.op (p := .move (.tmp 9)) (by kernel_rfl)) (cx.base hL.len hL.s9 (by decide)) ?_
  rw [cx.dst]
  exact hK _ w rfl (Upd.refl [] w)
set_option maxRecDepth 100000 in
theorem kp_41 (hL : KnL V L) (hB : KnB V w0) : StepK V L w0 41 := by
  intro o f w K Q cx hK
  refine st_move (cx.op (p := .move (.tmp 3)) (by kernel_rfl)) (cx.base hL.len hL.s3 (by decide)) ?_
  rw [cx.dst]
  exact hK _ w rfl (Upd.refl [] w)
set_option maxRecDepth 100000 in
theorem kp_42 (hL : KnL V L) (hB : KnB V w0) : StepK V L w0 42 := by
  intro o f w K Q cx hK
  obtain ⟨a, ah, ap⟩ := cx.tmp hL.len 40 (by kernel_rfl) 93 rfl (by decide)
  obtain ⟨b, bh, bp⟩ := cx.tmp hL.len 41 (by kernel_rfl) 94 rfl (by decide)
  have ae : a = .func (.func 10) #[] #[] := ap
  have be : b = V.sl 0 := bp
  subst ae be
  refine st_call (s := 1) (x0 := V.xx) (m0 := V.xm) (c0 := V.xc) (cx.op (p := .call { callee := .value (.tmp 93), args := #[.const (.int .u64 1), .tmp 94], argTypes := #[32, 27] }) (by kernel_rfl)) ah bh fun w' hu => ?_
  rw [cx.dst]
  exact hK _ w' rfl hu
set_option maxRecDepth 100000 in
theorem kp_43 (hL : KnL V L) (hB : KnB V w0) : StepK V L w0 43 := by
  intro o f w K Q cx hK
  obtain ⟨a, ah, ap⟩ := cx.tmp hL.len 42 (by kernel_rfl) 95 rfl (by decide)
  have ae : a = .agg #[.int .u64 1, V.sl 0] := ap
  subst ae
  refine st_dn1 (s := 1) (x0 := V.xx) (m0 := V.xm) (c0 := V.xc) (cx.op (p := .buildSlice 47 1 #[(0, .tmp 95)]) (by kernel_rfl)) ah ?_
  rw [cx.dst]
  exact hK _ _ (Kind.put (K := dnK) (l := [(1, xA)]) (css := [dnc 1 (V.sl 0)]) (.cons (dn_holds (by decide) (Bts.grow hB.bx cx.upd)) (.nil)) rfl (by decide)) ((Upd.refl [] w).alloc _)
set_option maxRecDepth 100000 in
theorem kp_44 (hL : KnL V L) (hB : KnB V w0) : StepK V L w0 44 := by
  intro o f w K Q cx hK
  refine st_load (s := 1) (e := 0) (cx.op (p := .load 39 (.tmp 10)) (by kernel_rfl)) (cx.base hL.len hL.s10 (by decide)) (hB.p.upd_nil' cx.upd) ?_
  rw [cx.dst]
  exact hK _ w rfl (Upd.refl [] w)
set_option maxRecDepth 100000 in
theorem kp_45 (hL : KnL V L) (hB : KnB V w0) : StepK V L w0 45 := by
  intro o f w K Q cx hK
  obtain ⟨a, ah, ap⟩ := cx.tmp hL.len 44 (by kernel_rfl) 97 rfl (by decide)
  have ae : a = .agg #[.int .u32 1, .int .u32 1, .int .u8 0, .string ⟨#[]⟩] := ap
  subst ae
  refine st_an1 (s := 1) (e := 0) (cx.op (p := .buildSlice 46 1 #[(0, .tmp 97)]) (by kernel_rfl)) ah ?_
  rw [cx.dst]
  exact hK _ _ (Kind.put (K := anK) (l := [ansA 1 0 []]) (css := [anc (ansA 1 0 [])]) (.cons (an_holds (by decide)) (.nil)) rfl (by decide)) ((Upd.refl [] w).alloc _)
set_option maxRecDepth 100000 in
theorem kp_46 (hL : KnL V L) (hB : KnB V w0) : StepK V L w0 46 := by
  intro o f w K Q cx hK
  obtain ⟨a, ah, ap⟩ := cx.tmp hL.len 43 (by kernel_rfl) 96 rfl (by decide)
  obtain ⟨b, bh, bp⟩ := cx.tmp hL.len 45 (by kernel_rfl) 98 rfl (by decide)
  have ar : dnK.row w (Od w) a [(1, xA)] := ap
  have br : anK.row w (Od w) b [ansA 1 0 []] := bp
  obtain ⟨x, c, rfl, -, -⟩ := Row.slice ar
  obtain ⟨y, d, rfl, -, -⟩ := Row.slice br
  refine st_to2 (cx.op (p := .build 49 #[(4, .tmp 96), (3, .tmp 98)]) (by kernel_rfl)) ah bh ?_
  rw [cx.dst]
  exact hK _ w ⟨_, _, rfl, br, ar⟩ (Upd.refl [] w)
set_option maxRecDepth 100000 in
theorem kp_47 (hL : KnL V L) (hB : KnB V w0) : StepK V L w0 47 := by
  intro o f w K Q cx hK
  refine st_to0 (cx.op (p := .build 49 #[]) (by kernel_rfl)) ?_
  rw [cx.dst]
  exact hK _ w ⟨_, _, rfl, anK.row_nil _ _, dnK.row_nil _ _⟩ (Upd.refl [] w)
set_option maxRecDepth 100000 in
theorem kp_48 (hL : KnL V L) (hB : KnB V w0) : StepK V L w0 48 := by
  intro o f w K Q cx hK
  refine st_move (cx.op (p := .move (.tmp 9)) (by kernel_rfl)) (cx.base hL.len hL.s9 (by decide)) ?_
  rw [cx.dst]
  exact hK _ w rfl (Upd.refl [] w)
set_option maxRecDepth 100000 in
theorem kp_49 (hL : KnL V L) (hB : KnB V w0) : StepK V L w0 49 := by
  intro o f w K Q cx hK
  refine st_move (cx.op (p := .move (.tmp 3)) (by kernel_rfl)) (cx.base hL.len hL.s3 (by decide)) ?_
  rw [cx.dst]
  exact hK _ w rfl (Upd.refl [] w)
set_option maxRecDepth 100000 in
theorem kp_50 (hL : KnL V L) (hB : KnB V w0) : StepK V L w0 50 := by
  intro o f w K Q cx hK
  obtain ⟨a, ah, ap⟩ := cx.tmp hL.len 48 (by kernel_rfl) 101 rfl (by decide)
  obtain ⟨b, bh, bp⟩ := cx.tmp hL.len 49 (by kernel_rfl) 102 rfl (by decide)
  have ae : a = .func (.func 10) #[] #[] := ap
  have be : b = V.sl 0 := bp
  subst ae be
  refine st_call (s := 1) (x0 := V.xx) (m0 := V.xm) (c0 := V.xc) (cx.op (p := .call { callee := .value (.tmp 101), args := #[.const (.int .u64 1), .tmp 102], argTypes := #[32, 27] }) (by kernel_rfl)) ah bh fun w' hu => ?_
  rw [cx.dst]
  exact hK _ w' rfl hu
set_option maxRecDepth 100000 in
theorem kp_51 (hL : KnL V L) (hB : KnB V w0) : StepK V L w0 51 := by
  intro o f w K Q cx hK
  obtain ⟨a, ah, ap⟩ := cx.tmp hL.len 50 (by kernel_rfl) 103 rfl (by decide)
  have ae : a = .agg #[.int .u64 1, V.sl 0] := ap
  subst ae
  refine st_dn1 (s := 1) (x0 := V.xx) (m0 := V.xm) (c0 := V.xc) (cx.op (p := .buildSlice 47 1 #[(0, .tmp 103)]) (by kernel_rfl)) ah ?_
  rw [cx.dst]
  exact hK _ _ (Kind.put (K := dnK) (l := [(1, xA)]) (css := [dnc 1 (V.sl 0)]) (.cons (dn_holds (by decide) (Bts.grow hB.bx cx.upd)) (.nil)) rfl (by decide)) ((Upd.refl [] w).alloc _)
set_option maxRecDepth 100000 in
theorem kp_52 (hL : KnL V L) (hB : KnB V w0) : StepK V L w0 52 := by
  intro o f w K Q cx hK
  refine st_load (s := 1) (e := 2) (cx.op (p := .load 39 (.tmp 12)) (by kernel_rfl)) (cx.base hL.len hL.s12 (by decide)) (hB.wr.upd_nil' cx.upd) ?_
  rw [cx.dst]
  exact hK _ w rfl (Upd.refl [] w)
set_option maxRecDepth 100000 in
theorem kp_53 (hL : KnL V L) (hB : KnB V w0) : StepK V L w0 53 := by
  intro o f w K Q cx hK
  obtain ⟨a, ah, ap⟩ := cx.tmp hL.len 52 (by kernel_rfl) 105 rfl (by decide)
  have ae : a = .agg #[.int .u32 1, .int .u32 1, .int .u8 2, .string ⟨#[]⟩] := ap
  subst ae
  refine st_an1 (s := 1) (e := 2) (cx.op (p := .buildSlice 46 1 #[(0, .tmp 105)]) (by kernel_rfl)) ah ?_
  rw [cx.dst]
  exact hK _ _ (Kind.put (K := anK) (l := [ansA 1 2 []]) (css := [anc (ansA 1 2 [])]) (.cons (an_holds (by decide)) (.nil)) rfl (by decide)) ((Upd.refl [] w).alloc _)
set_option maxRecDepth 100000 in
theorem kp_54 (hL : KnL V L) (hB : KnB V w0) : StepK V L w0 54 := by
  intro o f w K Q cx hK
  obtain ⟨a, ah, ap⟩ := cx.tmp hL.len 51 (by kernel_rfl) 104 rfl (by decide)
  obtain ⟨b, bh, bp⟩ := cx.tmp hL.len 53 (by kernel_rfl) 106 rfl (by decide)
  have ar : dnK.row w (Od w) a [(1, xA)] := ap
  have br : anK.row w (Od w) b [ansA 1 2 []] := bp
  obtain ⟨x, c, rfl, -, -⟩ := Row.slice ar
  obtain ⟨y, d, rfl, -, -⟩ := Row.slice br
  refine st_to2 (cx.op (p := .build 49 #[(4, .tmp 104), (3, .tmp 106)]) (by kernel_rfl)) ah bh ?_
  rw [cx.dst]
  exact hK _ w ⟨_, _, rfl, br, ar⟩ (Upd.refl [] w)
set_option maxRecDepth 100000 in
theorem kp_55 (hL : KnL V L) (hB : KnB V w0) : StepK V L w0 55 := by
  intro o f w K Q cx hK
  obtain ⟨u0, u0h, u0p⟩ := cx.tmp hL.len 39 (by kernel_rfl) 92 rfl (by decide)
  obtain ⟨u0a, u0d, rfl, u0va, u0vd⟩ : ∃ va vd, u0 = .agg #[.int .i64 0, .int .i64 0, .int .i64 0, va, vd] ∧ anK.row w (Od w) va [] ∧ dnK.row w (Od w) vd [] := u0p
  obtain ⟨u0x, u0m, rfl, -, -⟩ := Row.slice u0va
  obtain ⟨u0u, u0n, rfl, -, -⟩ := Row.slice u0vd
  obtain ⟨u1, u1h, u1p⟩ := cx.tmp hL.len 46 (by kernel_rfl) 99 rfl (by decide)
  obtain ⟨u1a, u1d, rfl, u1va, u1vd⟩ : ∃ va vd, u1 = .agg #[.int .i64 0, .int .i64 0, .int .i64 0, va, vd] ∧ anK.row w (Od w) va [ansA 1 0 []] ∧ dnK.row w (Od w) vd [(1, xA)] := u1p
  obtain ⟨u1x, u1m, rfl, -, -⟩ := Row.slice u1va
  obtain ⟨u1u, u1n, rfl, -, -⟩ := Row.slice u1vd
  obtain ⟨u2, u2h, u2p⟩ := cx.tmp hL.len 47 (by kernel_rfl) 100 rfl (by decide)
  obtain ⟨u2a, u2d, rfl, u2va, u2vd⟩ : ∃ va vd, u2 = .agg #[.int .i64 0, .int .i64 0, .int .i64 0, va, vd] ∧ anK.row w (Od w) va [] ∧ dnK.row w (Od w) vd [] := u2p
  obtain ⟨u2x, u2m, rfl, -, -⟩ := Row.slice u2va
  obtain ⟨u2u, u2n, rfl, -, -⟩ := Row.slice u2vd
  obtain ⟨u3, u3h, u3p⟩ := cx.tmp hL.len 54 (by kernel_rfl) 107 rfl (by decide)
  obtain ⟨u3a, u3d, rfl, u3va, u3vd⟩ : ∃ va vd, u3 = .agg #[.int .i64 0, .int .i64 0, .int .i64 0, va, vd] ∧ anK.row w (Od w) va [ansA 1 2 []] ∧ dnK.row w (Od w) vd [(1, xA)] := u3p
  obtain ⟨u3x, u3m, rfl, -, -⟩ := Row.slice u3va
  obtain ⟨u3u, u3n, rfl, -, -⟩ := Row.slice u3vd
  refine st_tos4 (cx.op (p := .buildSlice 43 4 #[(0, .tmp 92), (1, .tmp 99), (2, .tmp 100), (3, .tmp 107)]) (by kernel_rfl)) u0h u1h u2h u3h ?_
  rw [cx.dst]
  exact hK _ _ (Kind.put (K := toK) (l := [(⟨0, [], []⟩ : To), (⟨0, [ansA 1 0 []], [(1, xA)]⟩ : To), (⟨0, [], []⟩ : To), (⟨0, [ansA 1 2 []], [(1, xA)]⟩ : To)]) (css := [toc 0 (.slice u0x ([] : List An).length u0m) (.slice u0u ([] : List Dn).length u0n), toc 0 (.slice u1x ([ansA 1 0 []] : List An).length u1m) (.slice u1u ([(1, xA)] : List Dn).length u1n), toc 0 (.slice u2x ([] : List An).length u2m) (.slice u2u ([] : List Dn).length u2n), toc 0 (.slice u3x ([ansA 1 2 []] : List An).length u3m) (.slice u3u ([(1, xA)] : List Dn).length u3n)]) (.cons (to_holds (t := (⟨0, [], []⟩ : To)) u0va u0vd) (.cons (to_holds (t := (⟨0, [ansA 1 0 []], [(1, xA)]⟩ : To)) u1va u1vd) (.cons (to_holds (t := (⟨0, [], []⟩ : To)) u2va u2vd) (.cons (to_holds (t := (⟨0, [ansA 1 2 []], [(1, xA)]⟩ : To)) u3va u3vd) (.nil))))) rfl (by decide)) ((Upd.refl [] w).alloc _)
set_option maxRecDepth 100000 in
theorem kp_56 (hL : KnL V L) (hB : KnB V w0) : StepK V L w0 56 := by
  intro o f w K Q cx hK
  refine st_fi (s := 3) (e := 2) (cx.op (p := .build 51 #[(0, .const (.int .i64 3)), (1, .const (.int .u8 2))]) (by kernel_rfl)) ?_
  rw [cx.dst]
  exact hK _ w rfl (Upd.refl [] w)
set_option maxRecDepth 100000 in
theorem kp_57 (hL : KnL V L) (hB : KnB V w0) : StepK V L w0 57 := by
  intro o f w K Q cx hK
  obtain ⟨a, ah, ap⟩ := cx.tmp hL.len 56 (by kernel_rfl) 109 rfl (by decide)
  have ae : a = .agg #[.int .i64 3, .int .u8 2] := ap
  subst ae
  refine st_fis (s := 3) (e := 2) (cx.op (p := .buildSlice 44 1 #[(0, .tmp 109)]) (by kernel_rfl)) ah ?_
  rw [cx.dst]
  exact hK _ _ (Kind.put (K := fnK) (l := [(3, 2)]) (css := [[.int .i64 3, .int .u8 2]]) (.cons rfl .nil) rfl (by decide)) ((Upd.refl [] w).alloc _)
set_option maxRecDepth 100000 in
theorem kp_58 (hL : KnL V L) (hB : KnB V w0) : StepK V L w0 58 := by
  intro o f w K Q cx hK
  obtain ⟨a, ah, ap⟩ := cx.tmp hL.len 55 (by kernel_rfl) 108 rfl (by decide)
  have ar : toK.row w (Od w) a [(⟨0, [], []⟩ : To), (⟨0, [ansA 1 0 []], [(1, xA)]⟩ : To), (⟨0, [], []⟩ : To), (⟨0, [ansA 1 2 []], [(1, xA)]⟩ : To)] := ap
  obtain ⟨x, c, rfl, -, -⟩ := Row.slice ar
  obtain ⟨b, bh, bp⟩ := cx.tmp hL.len 57 (by kernel_rfl) 110 rfl (by decide)
  have br : fnK.row w (Od w) b [(3, 2)] := bp
  obtain ⟨y, d, rfl, -, -⟩ := Row.slice br
  refine st_rk2 (cx.op (p := .build 45 #[(0, .tmp 108), (1, .tmp 110)]) (by kernel_rfl)) ah bh ?_
  rw [cx.dst]
  exact hK _ w ⟨_, _, rfl, ar, br⟩ (Upd.refl [] w)
set_option maxRecDepth 100000 in
theorem kp_59 (hL : KnL V L) (hB : KnB V w0) : StepK V L w0 59 := by
  intro o f w K Q cx hK
  refine st_to0 (cx.op (p := .build 49 #[]) (by kernel_rfl)) ?_
  rw [cx.dst]
  exact hK _ w ⟨_, _, rfl, anK.row_nil _ _, dnK.row_nil _ _⟩ (Upd.refl [] w)
set_option maxRecDepth 100000 in
theorem kp_60 (hL : KnL V L) (hB : KnB V w0) : StepK V L w0 60 := by
  intro o f w K Q cx hK
  refine st_move (cx.op (p := .move (.tmp 9)) (by kernel_rfl)) (cx.base hL.len hL.s9 (by decide)) ?_
  rw [cx.dst]
  exact hK _ w rfl (Upd.refl [] w)
set_option maxRecDepth 100000 in
theorem kp_61 (hL : KnL V L) (hB : KnB V w0) : StepK V L w0 61 := by
  intro o f w K Q cx hK
  refine st_move (cx.op (p := .move (.tmp 3)) (by kernel_rfl)) (cx.base hL.len hL.s3 (by decide)) ?_
  rw [cx.dst]
  exact hK _ w rfl (Upd.refl [] w)
set_option maxRecDepth 100000 in
theorem kp_62 (hL : KnL V L) (hB : KnB V w0) : StepK V L w0 62 := by
  intro o f w K Q cx hK
  obtain ⟨a, ah, ap⟩ := cx.tmp hL.len 60 (by kernel_rfl) 113 rfl (by decide)
  obtain ⟨b, bh, bp⟩ := cx.tmp hL.len 61 (by kernel_rfl) 114 rfl (by decide)
  have ae : a = .func (.func 10) #[] #[] := ap
  have be : b = V.sl 0 := bp
  subst ae be
  refine st_call (s := 1) (x0 := V.xx) (m0 := V.xm) (c0 := V.xc) (cx.op (p := .call { callee := .value (.tmp 113), args := #[.const (.int .u64 1), .tmp 114], argTypes := #[32, 27] }) (by kernel_rfl)) ah bh fun w' hu => ?_
  rw [cx.dst]
  exact hK _ w' rfl hu
set_option maxRecDepth 100000 in
theorem kp_63 (hL : KnL V L) (hB : KnB V w0) : StepK V L w0 63 := by
  intro o f w K Q cx hK
  obtain ⟨a, ah, ap⟩ := cx.tmp hL.len 62 (by kernel_rfl) 115 rfl (by decide)
  have ae : a = .agg #[.int .u64 1, V.sl 0] := ap
  subst ae
  refine st_dn1 (s := 1) (x0 := V.xx) (m0 := V.xm) (c0 := V.xc) (cx.op (p := .buildSlice 47 1 #[(0, .tmp 115)]) (by kernel_rfl)) ah ?_
  rw [cx.dst]
  exact hK _ _ (Kind.put (K := dnK) (l := [(1, xA)]) (css := [dnc 1 (V.sl 0)]) (.cons (dn_holds (by decide) (Bts.grow hB.bx cx.upd)) (.nil)) rfl (by decide)) ((Upd.refl [] w).alloc _)
set_option maxRecDepth 100000 in
theorem kp_64 (hL : KnL V L) (hB : KnB V w0) : StepK V L w0 64 := by
  intro o f w K Q cx hK
  refine st_load (s := 1) (e := 0) (cx.op (p := .load 39 (.tmp 10)) (by kernel_rfl)) (cx.base hL.len hL.s10 (by decide)) (hB.p.upd_nil' cx.upd) ?_
  rw [cx.dst]
  exact hK _ w rfl (Upd.refl [] w)
set_option maxRecDepth 100000 in
theorem kp_65 (hL : KnL V L) (hB : KnB V w0) : StepK V L w0 65 := by
  intro o f w K Q cx hK
  obtain ⟨a, ah, ap⟩ := cx.tmp hL.len 64 (by kernel_rfl) 117 rfl (by decide)
  have ae : a = .agg #[.int .u32 1, .int .u32 1, .int .u8 0, .string ⟨#[]⟩] := ap
  subst ae
  refine st_an1 (s := 1) (e := 0) (cx.op (p := .buildSlice 46 1 #[(0, .tmp 117)]) (by kernel_rfl)) ah ?_
  rw [cx.dst]
  exact hK _ _ (Kind.put (K := anK) (l := [ansA 1 0 []]) (css := [anc (ansA 1 0 [])]) (.cons (an_holds (by decide)) (.nil)) rfl (by decide)) ((Upd.refl [] w).alloc _)
set_option maxRecDepth 100000 in
theorem kp_66 (hL : KnL V L) (hB : KnB V w0) : StepK V L w0 66 := by
  intro o f w K Q cx hK
  obtain ⟨a, ah, ap⟩ := cx.tmp hL.len 63 (by kernel_rfl) 116 rfl (by decide)
  obtain ⟨b, bh, bp⟩ := cx.tmp hL.len 65 (by kernel_rfl) 118 rfl (by decide)
  have ar : dnK.row w (Od w) a [(1, xA)] := ap
  have br : anK.row w (Od w) b [ansA 1 0 []] := bp
  obtain ⟨x, c, rfl, -, -⟩ := Row.slice ar
  obtain ⟨y, d, rfl, -, -⟩ := Row.slice br
  refine st_to2 (cx.op (p := .build 49 #[(4, .tmp 116), (3, .tmp 118)]) (by kernel_rfl)) ah bh ?_
  rw [cx.dst]
  exact hK _ w ⟨_, _, rfl, br, ar⟩ (Upd.refl [] w)
set_option maxRecDepth 100000 in
theorem kp_67 (hL : KnL V L) (hB : KnB V w0) : StepK V L w0 67 := by
  intro o f w K Q cx hK
  refine st_to0 (cx.op (p := .build 49 #[]) (by kernel_rfl)) ?_
  rw [cx.dst]
  exact hK _ w ⟨_, _, rfl, anK.row_nil _ _, dnK.row_nil _ _⟩ (Upd.refl [] w)
set_option maxRecDepth 100000 in
theorem kp_68 (hL : KnL V L) (hB : KnB V w0) : StepK V L w0 68 := by
  intro o f w K Q cx hK
  refine st_move (cx.op (p := .move (.tmp 9)) (by kernel_rfl)) (cx.base hL.len hL.s9 (by decide)) ?_
  rw [cx.dst]
  exact hK _ w rfl (Upd.refl [] w)
set_option maxRecDepth 100000 in
theorem kp_69 (hL : KnL V L) (hB : KnB V w0) : StepK V L w0 69 := by
  intro o f w K Q cx hK
  refine st_move (cx.op (p := .move (.tmp 3)) (by kernel_rfl)) (cx.base hL.len hL.s3 (by decide)) ?_
  rw [cx.dst]
  exact hK _ w rfl (Upd.refl [] w)
set_option maxRecDepth 100000 in
theorem kp_70 (hL : KnL V L) (hB : KnB V w0) : StepK V L w0 70 := by
  intro o f w K Q cx hK
  obtain ⟨a, ah, ap⟩ := cx.tmp hL.len 68 (by kernel_rfl) 121 rfl (by decide)
  obtain ⟨b, bh, bp⟩ := cx.tmp hL.len 69 (by kernel_rfl) 122 rfl (by decide)
  have ae : a = .func (.func 10) #[] #[] := ap
  have be : b = V.sl 0 := bp
  subst ae be
  refine st_call (s := 1) (x0 := V.xx) (m0 := V.xm) (c0 := V.xc) (cx.op (p := .call { callee := .value (.tmp 121), args := #[.const (.int .u64 1), .tmp 122], argTypes := #[32, 27] }) (by kernel_rfl)) ah bh fun w' hu => ?_
  rw [cx.dst]
  exact hK _ w' rfl hu
set_option maxRecDepth 100000 in
theorem kp_71 (hL : KnL V L) (hB : KnB V w0) : StepK V L w0 71 := by
  intro o f w K Q cx hK
  obtain ⟨a, ah, ap⟩ := cx.tmp hL.len 70 (by kernel_rfl) 123 rfl (by decide)
  have ae : a = .agg #[.int .u64 1, V.sl 0] := ap
  subst ae
  refine st_dn1 (s := 1) (x0 := V.xx) (m0 := V.xm) (c0 := V.xc) (cx.op (p := .buildSlice 47 1 #[(0, .tmp 123)]) (by kernel_rfl)) ah ?_
  rw [cx.dst]
  exact hK _ _ (Kind.put (K := dnK) (l := [(1, xA)]) (css := [dnc 1 (V.sl 0)]) (.cons (dn_holds (by decide) (Bts.grow hB.bx cx.upd)) (.nil)) rfl (by decide)) ((Upd.refl [] w).alloc _)
set_option maxRecDepth 100000 in
theorem kp_72 (hL : KnL V L) (hB : KnB V w0) : StepK V L w0 72 := by
  intro o f w K Q cx hK
  refine st_load (s := 1) (e := 3) (cx.op (p := .load 39 (.tmp 13)) (by kernel_rfl)) (cx.base hL.len hL.s13 (by decide)) (hB.ol.upd_nil' cx.upd) ?_
  rw [cx.dst]
  exact hK _ w rfl (Upd.refl [] w)
set_option maxRecDepth 100000 in
theorem kp_73 (hL : KnL V L) (hB : KnB V w0) : StepK V L w0 73 := by
  intro o f w K Q cx hK
  obtain ⟨a, ah, ap⟩ := cx.tmp hL.len 72 (by kernel_rfl) 125 rfl (by decide)
  have ae : a = .agg #[.int .u32 1, .int .u32 1, .int .u8 3, .string ⟨#[]⟩] := ap
  subst ae
  refine st_an1 (s := 1) (e := 3) (cx.op (p := .buildSlice 46 1 #[(0, .tmp 125)]) (by kernel_rfl)) ah ?_
  rw [cx.dst]
  exact hK _ _ (Kind.put (K := anK) (l := [ansA 1 3 []]) (css := [anc (ansA 1 3 [])]) (.cons (an_holds (by decide)) (.nil)) rfl (by decide)) ((Upd.refl [] w).alloc _)
set_option maxRecDepth 100000 in
theorem kp_74 (hL : KnL V L) (hB : KnB V w0) : StepK V L w0 74 := by
  intro o f w K Q cx hK
  obtain ⟨a, ah, ap⟩ := cx.tmp hL.len 71 (by kernel_rfl) 124 rfl (by decide)
  obtain ⟨b, bh, bp⟩ := cx.tmp hL.len 73 (by kernel_rfl) 126 rfl (by decide)
  have ar : dnK.row w (Od w) a [(1, xA)] := ap
  have br : anK.row w (Od w) b [ansA 1 3 []] := bp
  obtain ⟨x, c, rfl, -, -⟩ := Row.slice ar
  obtain ⟨y, d, rfl, -, -⟩ := Row.slice br
  refine st_to2 (cx.op (p := .build 49 #[(4, .tmp 124), (3, .tmp 126)]) (by kernel_rfl)) ah bh ?_
  rw [cx.dst]
  exact hK _ w ⟨_, _, rfl, br, ar⟩ (Upd.refl [] w)
set_option maxRecDepth 100000 in
theorem kp_75 (hL : KnL V L) (hB : KnB V w0) : StepK V L w0 75 := by
  intro o f w K Q cx hK
  obtain ⟨u0, u0h, u0p⟩ := cx.tmp hL.len 59 (by kernel_rfl) 112 rfl (by decide)
  obtain ⟨u0a, u0d, rfl, u0va, u0vd⟩ : ∃ va vd, u0 = .agg #[.int .i64 0, .int .i64 0, .int .i64 0, va, vd] ∧ anK.row w (Od w) va [] ∧ dnK.row w (Od w) vd [] := u0p
  obtain ⟨u0x, u0m, rfl, -, -⟩ := Row.slice u0va
  obtain ⟨u0u, u0n, rfl, -, -⟩ := Row.slice u0vd
  obtain ⟨u1, u1h, u1p⟩ := cx.tmp hL.len 66 (by kernel_rfl) 119 rfl (by decide)
  obtain ⟨u1a, u1d, rfl, u1va, u1vd⟩ : ∃ va vd, u1 = .agg #[.int .i64 0, .int .i64 0, .int .i64 0, va, vd] ∧ anK.row w (Od w) va [ansA 1 0 []] ∧ dnK.row w (Od w) vd [(1, xA)] := u1p
  obtain ⟨u1x, u1m, rfl, -, -⟩ := Row.slice u1va
  obtain ⟨u1u, u1n, rfl, -, -⟩ := Row.slice u1vd
  obtain ⟨u2, u2h, u2p⟩ := cx.tmp hL.len 67 (by kernel_rfl) 120 rfl (by decide)
  obtain ⟨u2a, u2d, rfl, u2va, u2vd⟩ : ∃ va vd, u2 = .agg #[.int .i64 0, .int .i64 0, .int .i64 0, va, vd] ∧ anK.row w (Od w) va [] ∧ dnK.row w (Od w) vd [] := u2p
  obtain ⟨u2x, u2m, rfl, -, -⟩ := Row.slice u2va
  obtain ⟨u2u, u2n, rfl, -, -⟩ := Row.slice u2vd
  obtain ⟨u3, u3h, u3p⟩ := cx.tmp hL.len 74 (by kernel_rfl) 127 rfl (by decide)
  obtain ⟨u3a, u3d, rfl, u3va, u3vd⟩ : ∃ va vd, u3 = .agg #[.int .i64 0, .int .i64 0, .int .i64 0, va, vd] ∧ anK.row w (Od w) va [ansA 1 3 []] ∧ dnK.row w (Od w) vd [(1, xA)] := u3p
  obtain ⟨u3x, u3m, rfl, -, -⟩ := Row.slice u3va
  obtain ⟨u3u, u3n, rfl, -, -⟩ := Row.slice u3vd
  refine st_tos4 (cx.op (p := .buildSlice 43 4 #[(0, .tmp 112), (1, .tmp 119), (2, .tmp 120), (3, .tmp 127)]) (by kernel_rfl)) u0h u1h u2h u3h ?_
  rw [cx.dst]
  exact hK _ _ (Kind.put (K := toK) (l := [(⟨0, [], []⟩ : To), (⟨0, [ansA 1 0 []], [(1, xA)]⟩ : To), (⟨0, [], []⟩ : To), (⟨0, [ansA 1 3 []], [(1, xA)]⟩ : To)]) (css := [toc 0 (.slice u0x ([] : List An).length u0m) (.slice u0u ([] : List Dn).length u0n), toc 0 (.slice u1x ([ansA 1 0 []] : List An).length u1m) (.slice u1u ([(1, xA)] : List Dn).length u1n), toc 0 (.slice u2x ([] : List An).length u2m) (.slice u2u ([] : List Dn).length u2n), toc 0 (.slice u3x ([ansA 1 3 []] : List An).length u3m) (.slice u3u ([(1, xA)] : List Dn).length u3n)]) (.cons (to_holds (t := (⟨0, [], []⟩ : To)) u0va u0vd) (.cons (to_holds (t := (⟨0, [ansA 1 0 []], [(1, xA)]⟩ : To)) u1va u1vd) (.cons (to_holds (t := (⟨0, [], []⟩ : To)) u2va u2vd) (.cons (to_holds (t := (⟨0, [ansA 1 3 []], [(1, xA)]⟩ : To)) u3va u3vd) (.nil))))) rfl (by decide)) ((Upd.refl [] w).alloc _)
set_option maxRecDepth 100000 in
theorem kp_76 (hL : KnL V L) (hB : KnB V w0) : StepK V L w0 76 := by
  intro o f w K Q cx hK
  obtain ⟨a, ah, ap⟩ := cx.tmp hL.len 75 (by kernel_rfl) 128 rfl (by decide)
  have ar : toK.row w (Od w) a [(⟨0, [], []⟩ : To), (⟨0, [ansA 1 0 []], [(1, xA)]⟩ : To), (⟨0, [], []⟩ : To), (⟨0, [ansA 1 3 []], [(1, xA)]⟩ : To)] := ap
  obtain ⟨x, c, rfl, -, -⟩ := Row.slice ar
  refine st_rk1 (cx.op (p := .build 45 #[(0, .tmp 128), (1, .const (.slice none 0 0))]) (by kernel_rfl)) ah ?_
  rw [cx.dst]
  exact hK _ w ⟨_, _, rfl, ar, fnK.row_nil _ _⟩ (Upd.refl [] w)
set_option maxRecDepth 100000 in
theorem kp_77 (hL : KnL V L) (hB : KnB V w0) : StepK V L w0 77 := by
  intro o f w K Q cx hK
  refine st_to0 (cx.op (p := .build 49 #[]) (by kernel_rfl)) ?_
  rw [cx.dst]
  exact hK _ w ⟨_, _, rfl, anK.row_nil _ _, dnK.row_nil _ _⟩ (Upd.refl [] w)
set_option maxRecDepth 100000 in
theorem kp_78 (hL : KnL V L) (hB : KnB V w0) : StepK V L w0 78 := by
  intro o f w K Q cx hK
  refine st_move (cx.op (p := .move (.tmp 9)) (by kernel_rfl)) (cx.base hL.len hL.s9 (by decide)) ?_
  rw [cx.dst]
  exact hK _ w rfl (Upd.refl [] w)
set_option maxRecDepth 100000 in
theorem kp_79 (hL : KnL V L) (hB : KnB V w0) : StepK V L w0 79 := by
  intro o f w K Q cx hK
  refine st_move (cx.op (p := .move (.tmp 5)) (by kernel_rfl)) (cx.base hL.len hL.s5 (by decide)) ?_
  rw [cx.dst]
  exact hK _ w rfl (Upd.refl [] w)
set_option maxRecDepth 100000 in
theorem kp_80 (hL : KnL V L) (hB : KnB V w0) : StepK V L w0 80 := by
  intro o f w K Q cx hK
  obtain ⟨a, ah, ap⟩ := cx.tmp hL.len 78 (by kernel_rfl) 131 rfl (by decide)
  obtain ⟨b, bh, bp⟩ := cx.tmp hL.len 79 (by kernel_rfl) 132 rfl (by decide)
  have ae : a = .func (.func 10) #[] #[] := ap
  have be : b = V.sl 1 := bp
  subst ae be
  refine st_call (s := 1) (x0 := V.yx) (m0 := V.ym) (c0 := V.yc) (cx.op (p := .call { callee := .value (.tmp 131), args := #[.const (.int .u64 1), .tmp 132], argTypes := #[32, 27] }) (by kernel_rfl)) ah bh fun w' hu => ?_
  rw [cx.dst]
  exact hK _ w' rfl hu
set_option maxRecDepth 100000 in
theorem kp_81 (hL : KnL V L) (hB : KnB V w0) : StepK V L w0 81 := by
  intro o f w K Q cx hK
  obtain ⟨a, ah, ap⟩ := cx.tmp hL.len 80 (by kernel_rfl) 133 rfl (by decide)
  have ae : a = .agg #[.int .u64 1, V.sl 1] := ap
  subst ae
  refine st_dn1 (s := 1) (x0 := V.yx) (m0 := V.ym) (c0 := V.yc) (cx.op (p := .buildSlice 47 1 #[(0, .tmp 133)]) (by kernel_rfl)) ah ?_
  rw [cx.dst]
  exact hK _ _ (Kind.put (K := dnK) (l := [(1, yA)]) (css := [dnc 1 (V.sl 1)]) (.cons (dn_holds (by decide) (Bts.grow hB.by' cx.upd)) (.nil)) rfl (by decide)) ((Upd.refl [] w).alloc _)
set_option maxRecDepth 100000 in
theorem kp_82 (hL : KnL V L) (hB : KnB V w0) : StepK V L w0 82 := by
  intro o f w K Q cx hK
  refine st_load (s := 2) (e := 0) (cx.op (p := .load 39 (.tmp 11)) (by kernel_rfl)) (cx.base hL.len hL.s11 (by decide)) (hB.q.upd_nil' cx.upd) ?_
  rw [cx.dst]
  exact hK _ w rfl (Upd.refl [] w)
set_option maxRecDepth 100000 in
theorem kp_83 (hL : KnL V L) (hB : KnB V w0) : StepK V L w0 83 := by
  intro o f w K Q cx hK
  obtain ⟨a, ah, ap⟩ := cx.tmp hL.len 82 (by kernel_rfl) 135 rfl (by decide)
  have ae : a = .agg #[.int .u32 2, .int .u32 1, .int .u8 0, .string ⟨#[]⟩] := ap
  subst ae
  refine st_an1 (s := 2) (e := 0) (cx.op (p := .buildSlice 46 1 #[(0, .tmp 135)]) (by kernel_rfl)) ah ?_
  rw [cx.dst]
  exact hK _ _ (Kind.put (K := anK) (l := [ansA 2 0 []]) (css := [anc (ansA 2 0 [])]) (.cons (an_holds (by decide)) (.nil)) rfl (by decide)) ((Upd.refl [] w).alloc _)
set_option maxRecDepth 100000 in
theorem kp_84 (hL : KnL V L) (hB : KnB V w0) : StepK V L w0 84 := by
  intro o f w K Q cx hK
  obtain ⟨a, ah, ap⟩ := cx.tmp hL.len 81 (by kernel_rfl) 134 rfl (by decide)
  obtain ⟨b, bh, bp⟩ := cx.tmp hL.len 83 (by kernel_rfl) 136 rfl (by decide)
  have ar : dnK.row w (Od w) a [(1, yA)] := ap
  have br : anK.row w (Od w) b [ansA 2 0 []] := bp
  obtain ⟨x, c, rfl, -, -⟩ := Row.slice ar
  obtain ⟨y, d, rfl, -, -⟩ := Row.slice br
  refine st_to2 (cx.op (p := .build 49 #[(4, .tmp 134), (3, .tmp 136)]) (by kernel_rfl)) ah bh ?_
  rw [cx.dst]
  exact hK _ w ⟨_, _, rfl, br, ar⟩ (Upd.refl [] w)
set_option maxRecDepth 100000 in
theorem kp_85 (hL : KnL V L) (hB : KnB V w0) : StepK V L w0 85 := by
  intro o f w K Q cx hK
  obtain ⟨u0, u0h, u0p⟩ := cx.tmp hL.len 77 (by kernel_rfl) 130 rfl (by decide)
  obtain ⟨u0a, u0d, rfl, u0va, u0vd⟩ : ∃ va vd, u0 = .agg #[.int .i64 0, .int .i64 0, .int .i64 0, va, vd] ∧ anK.row w (Od w) va [] ∧ dnK.row w (Od w) vd [] := u0p
  obtain ⟨u0x, u0m, rfl, -, -⟩ := Row.slice u0va
  obtain ⟨u0u, u0n, rfl, -, -⟩ := Row.slice u0vd
  obtain ⟨u1, u1h, u1p⟩ := cx.tmp hL.len 84 (by kernel_rfl) 137 rfl (by decide)
  obtain ⟨u1a, u1d, rfl, u1va, u1vd⟩ : ∃ va vd, u1 = .agg #[.int .i64 0, .int .i64 0, .int .i64 0, va, vd] ∧ anK.row w (Od w) va [ansA 2 0 []] ∧ dnK.row w (Od w) vd [(1, yA)] := u1p
  obtain ⟨u1x, u1m, rfl, -, -⟩ := Row.slice u1va
  obtain ⟨u1u, u1n, rfl, -, -⟩ := Row.slice u1vd
  refine st_tos2 (cx.op (p := .buildSlice 43 2 #[(0, .tmp 130), (1, .tmp 137)]) (by kernel_rfl)) u0h u1h ?_
  rw [cx.dst]
  exact hK _ _ (Kind.put (K := toK) (l := [(⟨0, [], []⟩ : To), (⟨0, [ansA 2 0 []], [(1, yA)]⟩ : To)]) (css := [toc 0 (.slice u0x ([] : List An).length u0m) (.slice u0u ([] : List Dn).length u0n), toc 0 (.slice u1x ([ansA 2 0 []] : List An).length u1m) (.slice u1u ([(1, yA)] : List Dn).length u1n)]) (.cons (to_holds (t := (⟨0, [], []⟩ : To)) u0va u0vd) (.cons (to_holds (t := (⟨0, [ansA 2 0 []], [(1, yA)]⟩ : To)) u1va u1vd) (.nil))) rfl (by decide)) ((Upd.refl [] w).alloc _)
set_option maxRecDepth 100000 in
theorem kp_86 (hL : KnL V L) (hB : KnB V w0) : StepK V L w0 86 := by
  intro o f w K Q cx hK
  refine st_fi (s := 1) (e := 3) (cx.op (p := .build 51 #[(0, .const (.int .i64 1)), (1, .const (.int .u8 3))]) (by kernel_rfl)) ?_
  rw [cx.dst]
  exact hK _ w rfl (Upd.refl [] w)
set_option maxRecDepth 100000 in
theorem kp_87 (hL : KnL V L) (hB : KnB V w0) : StepK V L w0 87 := by
  intro o f w K Q cx hK
  obtain ⟨a, ah, ap⟩ := cx.tmp hL.len 86 (by kernel_rfl) 139 rfl (by decide)
  have ae : a = .agg #[.int .i64 1, .int .u8 3] := ap
  subst ae
  refine st_fis (s := 1) (e := 3) (cx.op (p := .buildSlice 44 1 #[(0, .tmp 139)]) (by kernel_rfl)) ah ?_
  rw [cx.dst]
  exact hK _ _ (Kind.put (K := fnK) (l := [(1, 3)]) (css := [[.int .i64 1, .int .u8 3]]) (.cons rfl .nil) rfl (by decide)) ((Upd.refl [] w).alloc _)
set_option maxRecDepth 100000 in
theorem kp_88 (hL : KnL V L) (hB : KnB V w0) : StepK V L w0 88 := by
  intro o f w K Q cx hK
  obtain ⟨a, ah, ap⟩ := cx.tmp hL.len 85 (by kernel_rfl) 138 rfl (by decide)
  have ar : toK.row w (Od w) a [(⟨0, [], []⟩ : To), (⟨0, [ansA 2 0 []], [(1, yA)]⟩ : To)] := ap
  obtain ⟨x, c, rfl, -, -⟩ := Row.slice ar
  obtain ⟨b, bh, bp⟩ := cx.tmp hL.len 87 (by kernel_rfl) 140 rfl (by decide)
  have br : fnK.row w (Od w) b [(1, 3)] := bp
  obtain ⟨y, d, rfl, -, -⟩ := Row.slice br
  refine st_rk2 (cx.op (p := .build 45 #[(0, .tmp 138), (1, .tmp 140)]) (by kernel_rfl)) ah bh ?_
  rw [cx.dst]
  exact hK _ w ⟨_, _, rfl, ar, br⟩ (Upd.refl [] w)
set_option maxRecDepth 100000 in
theorem kp_89 (hL : KnL V L) (hB : KnB V w0) : StepK V L w0 89 := by
  intro o f w K Q cx hK
  refine st_toE (s := 40) (cx.op (p := .build 49 #[(1, .const (.int .i64 40))]) (by kernel_rfl)) ?_
  rw [cx.dst]
  exact hK _ w ⟨_, _, rfl, anK.row_nil _ _, dnK.row_nil _ _⟩ (Upd.refl [] w)
set_option maxRecDepth 100000 in
theorem kp_90 (hL : KnL V L) (hB : KnB V w0) : StepK V L w0 90 := by
  intro o f w K Q cx hK
  refine st_move (cx.op (p := .move (.tmp 9)) (by kernel_rfl)) (cx.base hL.len hL.s9 (by decide)) ?_
  rw [cx.dst]
  exact hK _ w rfl (Upd.refl [] w)
set_option maxRecDepth 100000 in
theorem kp_91 (hL : KnL V L) (hB : KnB V w0) : StepK V L w0 91 := by
  intro o f w K Q cx hK
  refine st_move (cx.op (p := .move (.tmp 3)) (by kernel_rfl)) (cx.base hL.len hL.s3 (by decide)) ?_
  rw [cx.dst]
  exact hK _ w rfl (Upd.refl [] w)
set_option maxRecDepth 100000 in
theorem kp_92 (hL : KnL V L) (hB : KnB V w0) : StepK V L w0 92 := by
  intro o f w K Q cx hK
  obtain ⟨a, ah, ap⟩ := cx.tmp hL.len 90 (by kernel_rfl) 143 rfl (by decide)
  obtain ⟨b, bh, bp⟩ := cx.tmp hL.len 91 (by kernel_rfl) 144 rfl (by decide)
  have ae : a = .func (.func 10) #[] #[] := ap
  have be : b = V.sl 0 := bp
  subst ae be
  refine st_call (s := 1) (x0 := V.xx) (m0 := V.xm) (c0 := V.xc) (cx.op (p := .call { callee := .value (.tmp 143), args := #[.const (.int .u64 1), .tmp 144], argTypes := #[32, 27] }) (by kernel_rfl)) ah bh fun w' hu => ?_
  rw [cx.dst]
  exact hK _ w' rfl hu
set_option maxRecDepth 100000 in
theorem kp_93 (hL : KnL V L) (hB : KnB V w0) : StepK V L w0 93 := by
  intro o f w K Q cx hK
  obtain ⟨a, ah, ap⟩ := cx.tmp hL.len 92 (by kernel_rfl) 145 rfl (by decide)
  have ae : a = .agg #[.int .u64 1, V.sl 0] := ap
  subst ae
  refine st_dn1 (s := 1) (x0 := V.xx) (m0 := V.xm) (c0 := V.xc) (cx.op (p := .buildSlice 47 1 #[(0, .tmp 145)]) (by kernel_rfl)) ah ?_
  rw [cx.dst]
  exact hK _ _ (Kind.put (K := dnK) (l := [(1, xA)]) (css := [dnc 1 (V.sl 0)]) (.cons (dn_holds (by decide) (Bts.grow hB.bx cx.upd)) (.nil)) rfl (by decide)) ((Upd.refl [] w).alloc _)
set_option maxRecDepth 100000 in
theorem kp_94 (hL : KnL V L) (hB : KnB V w0) : StepK V L w0 94 := by
  intro o f w K Q cx hK
  refine st_load (s := 1) (e := 0) (cx.op (p := .load 39 (.tmp 10)) (by kernel_rfl)) (cx.base hL.len hL.s10 (by decide)) (hB.p.upd_nil' cx.upd) ?_
  rw [cx.dst]
  exact hK _ w rfl (Upd.refl [] w)
set_option maxRecDepth 100000 in
theorem kp_95 (hL : KnL V L) (hB : KnB V w0) : StepK V L w0 95 := by
  intro o f w K Q cx hK
  obtain ⟨a, ah, ap⟩ := cx.tmp hL.len 94 (by kernel_rfl) 147 rfl (by decide)
  have ae : a = .agg #[.int .u32 1, .int .u32 1, .int .u8 0, .string ⟨#[]⟩] := ap
  subst ae
  refine st_an1 (s := 1) (e := 0) (cx.op (p := .buildSlice 46 1 #[(0, .tmp 147)]) (by kernel_rfl)) ah ?_
  rw [cx.dst]
  exact hK _ _ (Kind.put (K := anK) (l := [ansA 1 0 []]) (css := [anc (ansA 1 0 [])]) (.cons (an_holds (by decide)) (.nil)) rfl (by decide)) ((Upd.refl [] w).alloc _)
set_option maxRecDepth 100000 in
theorem kp_96 (hL : KnL V L) (hB : KnB V w0) : StepK V L w0 96 := by
  intro o f w K Q cx hK
  obtain ⟨a, ah, ap⟩ := cx.tmp hL.len 93 (by kernel_rfl) 146 rfl (by decide)
  obtain ⟨b, bh, bp⟩ := cx.tmp hL.len 95 (by kernel_rfl) 148 rfl (by decide)
  have ar : dnK.row w (Od w) a [(1, xA)] := ap
  have br : anK.row w (Od w) b [ansA 1 0 []] := bp
  obtain ⟨x, c, rfl, -, -⟩ := Row.slice ar
  obtain ⟨y, d, rfl, -, -⟩ := Row.slice br
  refine st_to2 (cx.op (p := .build 49 #[(4, .tmp 146), (3, .tmp 148)]) (by kernel_rfl)) ah bh ?_
  rw [cx.dst]
  exact hK _ w ⟨_, _, rfl, br, ar⟩ (Upd.refl [] w)
set_option maxRecDepth 100000 in
theorem kp_97 (hL : KnL V L) (hB : KnB V w0) : StepK V L w0 97 := by
  intro o f w K Q cx hK
  obtain ⟨u0, u0h, u0p⟩ := cx.tmp hL.len 89 (by kernel_rfl) 142 rfl (by decide)
  obtain ⟨u0a, u0d, rfl, u0va, u0vd⟩ : ∃ va vd, u0 = .agg #[.int .i64 0, .int .i64 40, .int .i64 0, va, vd] ∧ anK.row w (Od w) va [] ∧ dnK.row w (Od w) vd [] := u0p
  obtain ⟨u0x, u0m, rfl, -, -⟩ := Row.slice u0va
  obtain ⟨u0u, u0n, rfl, -, -⟩ := Row.slice u0vd
  obtain ⟨u1, u1h, u1p⟩ := cx.tmp hL.len 96 (by kernel_rfl) 149 rfl (by decide)
  obtain ⟨u1a, u1d, rfl, u1va, u1vd⟩ : ∃ va vd, u1 = .agg #[.int .i64 0, .int .i64 0, .int .i64 0, va, vd] ∧ anK.row w (Od w) va [ansA 1 0 []] ∧ dnK.row w (Od w) vd [(1, xA)] := u1p
  obtain ⟨u1x, u1m, rfl, -, -⟩ := Row.slice u1va
  obtain ⟨u1u, u1n, rfl, -, -⟩ := Row.slice u1vd
  refine st_tos2 (cx.op (p := .buildSlice 43 2 #[(0, .tmp 142), (1, .tmp 149)]) (by kernel_rfl)) u0h u1h ?_
  rw [cx.dst]
  exact hK _ _ (Kind.put (K := toK) (l := [(⟨40, [], []⟩ : To), (⟨0, [ansA 1 0 []], [(1, xA)]⟩ : To)]) (css := [toc 40 (.slice u0x ([] : List An).length u0m) (.slice u0u ([] : List Dn).length u0n), toc 0 (.slice u1x ([ansA 1 0 []] : List An).length u1m) (.slice u1u ([(1, xA)] : List Dn).length u1n)]) (.cons (to_holds (t := (⟨40, [], []⟩ : To)) u0va u0vd) (.cons (to_holds (t := (⟨0, [ansA 1 0 []], [(1, xA)]⟩ : To)) u1va u1vd) (.nil))) rfl (by decide)) ((Upd.refl [] w).alloc _)
set_option maxRecDepth 100000 in
theorem kp_98 (hL : KnL V L) (hB : KnB V w0) : StepK V L w0 98 := by
  intro o f w K Q cx hK
  refine st_fi (s := 1) (e := 3) (cx.op (p := .build 51 #[(0, .const (.int .i64 1)), (1, .const (.int .u8 3))]) (by kernel_rfl)) ?_
  rw [cx.dst]
  exact hK _ w rfl (Upd.refl [] w)
set_option maxRecDepth 100000 in
theorem kp_99 (hL : KnL V L) (hB : KnB V w0) : StepK V L w0 99 := by
  intro o f w K Q cx hK
  obtain ⟨a, ah, ap⟩ := cx.tmp hL.len 98 (by kernel_rfl) 151 rfl (by decide)
  have ae : a = .agg #[.int .i64 1, .int .u8 3] := ap
  subst ae
  refine st_fis (s := 1) (e := 3) (cx.op (p := .buildSlice 44 1 #[(0, .tmp 151)]) (by kernel_rfl)) ah ?_
  rw [cx.dst]
  exact hK _ _ (Kind.put (K := fnK) (l := [(1, 3)]) (css := [[.int .i64 1, .int .u8 3]]) (.cons rfl .nil) rfl (by decide)) ((Upd.refl [] w).alloc _)
set_option maxRecDepth 100000 in
theorem kp_100 (hL : KnL V L) (hB : KnB V w0) : StepK V L w0 100 := by
  intro o f w K Q cx hK
  obtain ⟨a, ah, ap⟩ := cx.tmp hL.len 97 (by kernel_rfl) 150 rfl (by decide)
  have ar : toK.row w (Od w) a [(⟨40, [], []⟩ : To), (⟨0, [ansA 1 0 []], [(1, xA)]⟩ : To)] := ap
  obtain ⟨x, c, rfl, -, -⟩ := Row.slice ar
  obtain ⟨b, bh, bp⟩ := cx.tmp hL.len 99 (by kernel_rfl) 152 rfl (by decide)
  have br : fnK.row w (Od w) b [(1, 3)] := bp
  obtain ⟨y, d, rfl, -, -⟩ := Row.slice br
  refine st_rk2 (cx.op (p := .build 45 #[(0, .tmp 150), (1, .tmp 152)]) (by kernel_rfl)) ah bh ?_
  rw [cx.dst]
  exact hK _ w ⟨_, _, rfl, ar, br⟩ (Upd.refl [] w)
set_option maxRecDepth 100000 in
theorem kp_101 (hL : KnL V L) (hB : KnB V w0) : StepK V L w0 101 := by
  intro o f w K Q cx hK
  refine st_toE (s := 21) (cx.op (p := .build 49 #[(1, .const (.int .i64 21))]) (by kernel_rfl)) ?_
  rw [cx.dst]
  exact hK _ w ⟨_, _, rfl, anK.row_nil _ _, dnK.row_nil _ _⟩ (Upd.refl [] w)
set_option maxRecDepth 100000 in
theorem kp_102 (hL : KnL V L) (hB : KnB V w0) : StepK V L w0 102 := by
  intro o f w K Q cx hK
  refine st_move (cx.op (p := .move (.tmp 9)) (by kernel_rfl)) (cx.base hL.len hL.s9 (by decide)) ?_
  rw [cx.dst]
  exact hK _ w rfl (Upd.refl [] w)
set_option maxRecDepth 100000 in
theorem kp_103 (hL : KnL V L) (hB : KnB V w0) : StepK V L w0 103 := by
  intro o f w K Q cx hK
  refine st_move (cx.op (p := .move (.tmp 3)) (by kernel_rfl)) (cx.base hL.len hL.s3 (by decide)) ?_
  rw [cx.dst]
  exact hK _ w rfl (Upd.refl [] w)
set_option maxRecDepth 100000 in
theorem kp_104 (hL : KnL V L) (hB : KnB V w0) : StepK V L w0 104 := by
  intro o f w K Q cx hK
  obtain ⟨a, ah, ap⟩ := cx.tmp hL.len 102 (by kernel_rfl) 155 rfl (by decide)
  obtain ⟨b, bh, bp⟩ := cx.tmp hL.len 103 (by kernel_rfl) 156 rfl (by decide)
  have ae : a = .func (.func 10) #[] #[] := ap
  have be : b = V.sl 0 := bp
  subst ae be
  refine st_call (s := 1) (x0 := V.xx) (m0 := V.xm) (c0 := V.xc) (cx.op (p := .call { callee := .value (.tmp 155), args := #[.const (.int .u64 1), .tmp 156], argTypes := #[32, 27] }) (by kernel_rfl)) ah bh fun w' hu => ?_
  rw [cx.dst]
  exact hK _ w' rfl hu
set_option maxRecDepth 100000 in
theorem kp_105 (hL : KnL V L) (hB : KnB V w0) : StepK V L w0 105 := by
  intro o f w K Q cx hK
  obtain ⟨a, ah, ap⟩ := cx.tmp hL.len 104 (by kernel_rfl) 157 rfl (by decide)
  have ae : a = .agg #[.int .u64 1, V.sl 0] := ap
  subst ae
  refine st_dn1 (s := 1) (x0 := V.xx) (m0 := V.xm) (c0 := V.xc) (cx.op (p := .buildSlice 47 1 #[(0, .tmp 157)]) (by kernel_rfl)) ah ?_
  rw [cx.dst]
  exact hK _ _ (Kind.put (K := dnK) (l := [(1, xA)]) (css := [dnc 1 (V.sl 0)]) (.cons (dn_holds (by decide) (Bts.grow hB.bx cx.upd)) (.nil)) rfl (by decide)) ((Upd.refl [] w).alloc _)
set_option maxRecDepth 100000 in
theorem kp_106 (hL : KnL V L) (hB : KnB V w0) : StepK V L w0 106 := by
  intro o f w K Q cx hK
  refine st_load (s := 1) (e := 0) (cx.op (p := .load 39 (.tmp 10)) (by kernel_rfl)) (cx.base hL.len hL.s10 (by decide)) (hB.p.upd_nil' cx.upd) ?_
  rw [cx.dst]
  exact hK _ w rfl (Upd.refl [] w)
set_option maxRecDepth 100000 in
theorem kp_107 (hL : KnL V L) (hB : KnB V w0) : StepK V L w0 107 := by
  intro o f w K Q cx hK
  obtain ⟨a, ah, ap⟩ := cx.tmp hL.len 106 (by kernel_rfl) 159 rfl (by decide)
  have ae : a = .agg #[.int .u32 1, .int .u32 1, .int .u8 0, .string ⟨#[]⟩] := ap
  subst ae
  refine st_an1 (s := 1) (e := 0) (cx.op (p := .buildSlice 46 1 #[(0, .tmp 159)]) (by kernel_rfl)) ah ?_
  rw [cx.dst]
  exact hK _ _ (Kind.put (K := anK) (l := [ansA 1 0 []]) (css := [anc (ansA 1 0 [])]) (.cons (an_holds (by decide)) (.nil)) rfl (by decide)) ((Upd.refl [] w).alloc _)
set_option maxRecDepth 100000 in
theorem kp_108 (hL : KnL V L) (hB : KnB V w0) : StepK V L w0 108 := by
  intro o f w K Q cx hK
  obtain ⟨a, ah, ap⟩ := cx.tmp hL.len 105 (by kernel_rfl) 158 rfl (by decide)
  obtain ⟨b, bh, bp⟩ := cx.tmp hL.len 107 (by kernel_rfl) 160 rfl (by decide)
  have ar : dnK.row w (Od w) a [(1, xA)] := ap
  have br : anK.row w (Od w) b [ansA 1 0 []] := bp
  obtain ⟨x, c, rfl, -, -⟩ := Row.slice ar
  obtain ⟨y, d, rfl, -, -⟩ := Row.slice br
  refine st_to2 (cx.op (p := .build 49 #[(4, .tmp 158), (3, .tmp 160)]) (by kernel_rfl)) ah bh ?_
  rw [cx.dst]
  exact hK _ w ⟨_, _, rfl, br, ar⟩ (Upd.refl [] w)
set_option maxRecDepth 100000 in
theorem kp_109 (hL : KnL V L) (hB : KnB V w0) : StepK V L w0 109 := by
  intro o f w K Q cx hK
  obtain ⟨u0, u0h, u0p⟩ := cx.tmp hL.len 101 (by kernel_rfl) 154 rfl (by decide)
  obtain ⟨u0a, u0d, rfl, u0va, u0vd⟩ : ∃ va vd, u0 = .agg #[.int .i64 0, .int .i64 21, .int .i64 0, va, vd] ∧ anK.row w (Od w) va [] ∧ dnK.row w (Od w) vd [] := u0p
  obtain ⟨u0x, u0m, rfl, -, -⟩ := Row.slice u0va
  obtain ⟨u0u, u0n, rfl, -, -⟩ := Row.slice u0vd
  obtain ⟨u1, u1h, u1p⟩ := cx.tmp hL.len 108 (by kernel_rfl) 161 rfl (by decide)
  obtain ⟨u1a, u1d, rfl, u1va, u1vd⟩ : ∃ va vd, u1 = .agg #[.int .i64 0, .int .i64 0, .int .i64 0, va, vd] ∧ anK.row w (Od w) va [ansA 1 0 []] ∧ dnK.row w (Od w) vd [(1, xA)] := u1p
  obtain ⟨u1x, u1m, rfl, -, -⟩ := Row.slice u1va
  obtain ⟨u1u, u1n, rfl, -, -⟩ := Row.slice u1vd
  refine st_tos2 (cx.op (p := .buildSlice 43 2 #[(0, .tmp 154), (1, .tmp 161)]) (by kernel_rfl)) u0h u1h ?_
  rw [cx.dst]
  exact hK _ _ (Kind.put (K := toK) (l := [(⟨21, [], []⟩ : To), (⟨0, [ansA 1 0 []], [(1, xA)]⟩ : To)]) (css := [toc 21 (.slice u0x ([] : List An).length u0m) (.slice u0u ([] : List Dn).length u0n), toc 0 (.slice u1x ([ansA 1 0 []] : List An).length u1m) (.slice u1u ([(1, xA)] : List Dn).length u1n)]) (.cons (to_holds (t := (⟨21, [], []⟩ : To)) u0va u0vd) (.cons (to_holds (t := (⟨0, [ansA 1 0 []], [(1, xA)]⟩ : To)) u1va u1vd) (.nil))) rfl (by decide)) ((Upd.refl [] w).alloc _)
set_option maxRecDepth 100000 in
theorem kp_110 (hL : KnL V L) (hB : KnB V w0) : StepK V L w0 110 := by
  intro o f w K Q cx hK
  obtain ⟨a, ah, ap⟩ := cx.tmp hL.len 109 (by kernel_rfl) 162 rfl (by decide)
  have ar : toK.row w (Od w) a [(⟨21, [], []⟩ : To), (⟨0, [ansA 1 0 []], [(1, xA)]⟩ : To)] := ap
  obtain ⟨x, c, rfl, -, -⟩ := Row.slice ar
  refine st_rk1 (cx.op (p := .build 45 #[(0, .tmp 162), (1, .const (.slice none 0 0))]) (by kernel_rfl)) ah ?_
  rw [cx.dst]
  exact hK _ w ⟨_, _, rfl, ar, fnK.row_nil _ _⟩ (Upd.refl [] w)
set_option maxRecDepth 100000 in
theorem kp_111 (hL : KnL V L) (hB : KnB V w0) : StepK V L w0 111 := by
  intro o f w K Q cx hK
  refine st_to0 (cx.op (p := .build 49 #[]) (by kernel_rfl)) ?_
  rw [cx.dst]
  exact hK _ w ⟨_, _, rfl, anK.row_nil _ _, dnK.row_nil _ _⟩ (Upd.refl [] w)
set_option maxRecDepth 100000 in
theorem kp_112 (hL : KnL V L) (hB : KnB V w0) : StepK V L w0 112 := by
  intro o f w K Q cx hK
  refine st_to0 (cx.op (p := .build 49 #[]) (by kernel_rfl)) ?_
  rw [cx.dst]
  exact hK _ w ⟨_, _, rfl, anK.row_nil _ _, dnK.row_nil _ _⟩ (Upd.refl [] w)
set_option maxRecDepth 100000 in
theorem kp_113 (hL : KnL V L) (hB : KnB V w0) : StepK V L w0 113 := by
  intro o f w K Q cx hK
  refine st_to0 (cx.op (p := .build 49 #[]) (by kernel_rfl)) ?_
  rw [cx.dst]
  exact hK _ w ⟨_, _, rfl, anK.row_nil _ _, dnK.row_nil _ _⟩ (Upd.refl [] w)
set_option maxRecDepth 100000 in
theorem kp_114 (hL : KnL V L) (hB : KnB V w0) : StepK V L w0 114 := by
  intro o f w K Q cx hK
  refine st_move (cx.op (p := .move (.tmp 9)) (by kernel_rfl)) (cx.base hL.len hL.s9 (by decide)) ?_
  rw [cx.dst]
  exact hK _ w rfl (Upd.refl [] w)
set_option maxRecDepth 100000 in
theorem kp_115 (hL : KnL V L) (hB : KnB V w0) : StepK V L w0 115 := by
  intro o f w K Q cx hK
  refine st_move (cx.op (p := .move (.tmp 3)) (by kernel_rfl)) (cx.base hL.len hL.s3 (by decide)) ?_
  rw [cx.dst]
  exact hK _ w rfl (Upd.refl [] w)
set_option maxRecDepth 100000 in
theorem kp_116 (hL : KnL V L) (hB : KnB V w0) : StepK V L w0 116 := by
  intro o f w K Q cx hK
  obtain ⟨a, ah, ap⟩ := cx.tmp hL.len 114 (by kernel_rfl) 167 rfl (by decide)
  obtain ⟨b, bh, bp⟩ := cx.tmp hL.len 115 (by kernel_rfl) 168 rfl (by decide)
  have ae : a = .func (.func 10) #[] #[] := ap
  have be : b = V.sl 0 := bp
  subst ae be
  refine st_call (s := 1) (x0 := V.xx) (m0 := V.xm) (c0 := V.xc) (cx.op (p := .call { callee := .value (.tmp 167), args := #[.const (.int .u64 1), .tmp 168], argTypes := #[32, 27] }) (by kernel_rfl)) ah bh fun w' hu => ?_
  rw [cx.dst]
  exact hK _ w' rfl hu
set_option maxRecDepth 100000 in
theorem kp_117 (hL : KnL V L) (hB : KnB V w0) : StepK V L w0 117 := by
  intro o f w K Q cx hK
  refine st_move (cx.op (p := .move (.tmp 9)) (by kernel_rfl)) (cx.base hL.len hL.s9 (by decide)) ?_
  rw [cx.dst]
  exact hK _ w rfl (Upd.refl [] w)
set_option maxRecDepth 100000 in
theorem kp_118 (hL : KnL V L) (hB : KnB V w0) : StepK V L w0 118 := by
  intro o f w K Q cx hK
  refine st_move (cx.op (p := .move (.tmp 5)) (by kernel_rfl)) (cx.base hL.len hL.s5 (by decide)) ?_
  rw [cx.dst]
  exact hK _ w rfl (Upd.refl [] w)
set_option maxRecDepth 100000 in
theorem kp_119 (hL : KnL V L) (hB : KnB V w0) : StepK V L w0 119 := by
  intro o f w K Q cx hK
  obtain ⟨a, ah, ap⟩ := cx.tmp hL.len 117 (by kernel_rfl) 170 rfl (by decide)
  obtain ⟨b, bh, bp⟩ := cx.tmp hL.len 118 (by kernel_rfl) 171 rfl (by decide)
  have ae : a = .func (.func 10) #[] #[] := ap
  have be : b = V.sl 1 := bp
  subst ae be
  refine st_call (s := 3) (x0 := V.yx) (m0 := V.ym) (c0 := V.yc) (cx.op (p := .call { callee := .value (.tmp 170), args := #[.const (.int .u64 3), .tmp 171], argTypes := #[32, 27] }) (by kernel_rfl)) ah bh fun w' hu => ?_
  rw [cx.dst]
  exact hK _ w' rfl hu
set_option maxRecDepth 100000 in
theorem kp_120 (hL : KnL V L) (hB : KnB V w0) : StepK V L w0 120 := by
  intro o f w K Q cx hK
  obtain ⟨a, ah, ap⟩ := cx.tmp hL.len 116 (by kernel_rfl) 169 rfl (by decide)
  have ae : a = .agg #[.int .u64 1, V.sl 0] := ap
  subst ae
  obtain ⟨b, bh, bp⟩ := cx.tmp hL.len 119 (by kernel_rfl) 172 rfl (by decide)
  have be : b = .agg #[.int .u64 3, V.sl 1] := bp
  subst be
  refine st_dn2 (s := 1) (x0 := V.xx) (m0 := V.xm) (c0 := V.xc) (s' := 3) (x1 := V.yx) (m1 := V.ym) (c1 := V.yc) (cx.op (p := .buildSlice 47 2 #[(0, .tmp 169), (1, .tmp 172)]) (by kernel_rfl)) ah bh ?_
  rw [cx.dst]
  exact hK _ _ (Kind.put (K := dnK) (l := [(1, xA), (3, yA)]) (css := [dnc 1 (V.sl 0), dnc 3 (V.sl 1)]) (.cons (dn_holds (by decide) (Bts.grow hB.bx cx.upd)) (.cons (dn_holds (by decide) (Bts.grow hB.by' cx.upd)) (.nil))) rfl (by decide)) ((Upd.refl [] w).alloc _)
set_option maxRecDepth 100000 in
theorem kp_121 (hL : KnL V L) (hB : KnB V w0) : StepK V L w0 121 := by
  intro o f w K Q cx hK
  refine st_load (s := 1) (e := 0) (cx.op (p := .load 39 (.tmp 10)) (by kernel_rfl)) (cx.base hL.len hL.s10 (by decide)) (hB.p.upd_nil' cx.upd) ?_
  rw [cx.dst]
  exact hK _ w rfl (Upd.refl [] w)
set_option maxRecDepth 100000 in
theorem kp_122 (hL : KnL V L) (hB : KnB V w0) : StepK V L w0 122 := by
  intro o f w K Q cx hK
  refine st_load (s := 2) (e := 0) (cx.op (p := .load 39 (.tmp 11)) (by kernel_rfl)) (cx.base hL.len hL.s11 (by decide)) (hB.q.upd_nil' cx.upd) ?_
  rw [cx.dst]
  exact hK _ w rfl (Upd.refl [] w)
set_option maxRecDepth 100000 in
theorem kp_123 (hL : KnL V L) (hB : KnB V w0) : StepK V L w0 123 := by
  intro o f w K Q cx hK
  obtain ⟨a, ah, ap⟩ := cx.tmp hL.len 121 (by kernel_rfl) 174 rfl (by decide)
  have ae : a = .agg #[.int .u32 1, .int .u32 1, .int .u8 0, .string ⟨#[]⟩] := ap
  subst ae
  obtain ⟨b, bh, bp⟩ := cx.tmp hL.len 122 (by kernel_rfl) 175 rfl (by decide)
  have be : b = .agg #[.int .u32 2, .int .u32 1, .int .u8 0, .string ⟨#[]⟩] := bp
  subst be
  refine st_an2 (s := 1) (e := 0) (s' := 2) (e1 := 0) (cx.op (p := .buildSlice 46 2 #[(0, .tmp 174), (1, .tmp 175)]) (by kernel_rfl)) ah bh ?_
  rw [cx.dst]
  exact hK _ _ (Kind.put (K := anK) (l := [ansA 1 0 [], ansA 2 0 []]) (css := [anc (ansA 1 0 []), anc (ansA 2 0 [])]) (.cons (an_holds (by decide)) (.cons (an_holds (by decide)) (.nil))) rfl (by decide)) ((Upd.refl [] w).alloc _)
set_option maxRecDepth 100000 in
theorem kp_124 (hL : KnL V L) (hB : KnB V w0) : StepK V L w0 124 := by
  intro o f w K Q cx hK
  obtain ⟨a, ah, ap⟩ := cx.tmp hL.len 120 (by kernel_rfl) 173 rfl (by decide)
  obtain ⟨b, bh, bp⟩ := cx.tmp hL.len 123 (by kernel_rfl) 176 rfl (by decide)
  have ar : dnK.row w (Od w) a [(1, xA), (3, yA)] := ap
  have br : anK.row w (Od w) b [ansA 1 0 [], ansA 2 0 []] := bp
  obtain ⟨x, c, rfl, -, -⟩ := Row.slice ar
  obtain ⟨y, d, rfl, -, -⟩ := Row.slice br
  refine st_to2 (cx.op (p := .build 49 #[(4, .tmp 173), (3, .tmp 176)]) (by kernel_rfl)) ah bh ?_
  rw [cx.dst]
  exact hK _ w ⟨_, _, rfl, br, ar⟩ (Upd.refl [] w)
set_option maxRecDepth 100000 in
theorem kp_125 (hL : KnL V L) (hB : KnB V w0) : StepK V L w0 125 := by
  intro o f w K Q cx hK
  obtain ⟨u0, u0h, u0p⟩ := cx.tmp hL.len 111 (by kernel_rfl) 164 rfl (by decide)
  obtain ⟨u0a, u0d, rfl, u0va, u0vd⟩ : ∃ va vd, u0 = .agg #[.int .i64 0, .int .i64 0, .int .i64 0, va, vd] ∧ anK.row w (Od w) va [] ∧ dnK.row w (Od w) vd [] := u0p
  obtain ⟨u0x, u0m, rfl, -, -⟩ := Row.slice u0va
  obtain ⟨u0u, u0n, rfl, -, -⟩ := Row.slice u0vd
  obtain ⟨u1, u1h, u1p⟩ := cx.tmp hL.len 112 (by kernel_rfl) 165 rfl (by decide)
  obtain ⟨u1a, u1d, rfl, u1va, u1vd⟩ : ∃ va vd, u1 = .agg #[.int .i64 0, .int .i64 0, .int .i64 0, va, vd] ∧ anK.row w (Od w) va [] ∧ dnK.row w (Od w) vd [] := u1p
  obtain ⟨u1x, u1m, rfl, -, -⟩ := Row.slice u1va
  obtain ⟨u1u, u1n, rfl, -, -⟩ := Row.slice u1vd
  obtain ⟨u2, u2h, u2p⟩ := cx.tmp hL.len 113 (by kernel_rfl) 166 rfl (by decide)
  obtain ⟨u2a, u2d, rfl, u2va, u2vd⟩ : ∃ va vd, u2 = .agg #[.int .i64 0, .int .i64 0, .int .i64 0, va, vd] ∧ anK.row w (Od w) va [] ∧ dnK.row w (Od w) vd [] := u2p
  obtain ⟨u2x, u2m, rfl, -, -⟩ := Row.slice u2va
  obtain ⟨u2u, u2n, rfl, -, -⟩ := Row.slice u2vd
  obtain ⟨u3, u3h, u3p⟩ := cx.tmp hL.len 124 (by kernel_rfl) 177 rfl (by decide)
  obtain ⟨u3a, u3d, rfl, u3va, u3vd⟩ : ∃ va vd, u3 = .agg #[.int .i64 0, .int .i64 0, .int .i64 0, va, vd] ∧ anK.row w (Od w) va [ansA 1 0 [], ansA 2 0 []] ∧ dnK.row w (Od w) vd [(1, xA), (3, yA)] := u3p
  obtain ⟨u3x, u3m, rfl, -, -⟩ := Row.slice u3va
  obtain ⟨u3u, u3n, rfl, -, -⟩ := Row.slice u3vd
  refine st_tos4 (cx.op (p := .buildSlice 43 4 #[(0, .tmp 164), (1, .tmp 165), (2, .tmp 166), (3, .tmp 177)]) (by kernel_rfl)) u0h u1h u2h u3h ?_
  rw [cx.dst]
  exact hK _ _ (Kind.put (K := toK) (l := [(⟨0, [], []⟩ : To), (⟨0, [], []⟩ : To), (⟨0, [], []⟩ : To), (⟨0, [ansA 1 0 [], ansA 2 0 []], [(1, xA), (3, yA)]⟩ : To)]) (css := [toc 0 (.slice u0x ([] : List An).length u0m) (.slice u0u ([] : List Dn).length u0n), toc 0 (.slice u1x ([] : List An).length u1m) (.slice u1u ([] : List Dn).length u1n), toc 0 (.slice u2x ([] : List An).length u2m) (.slice u2u ([] : List Dn).length u2n), toc 0 (.slice u3x ([ansA 1 0 [], ansA 2 0 []] : List An).length u3m) (.slice u3u ([(1, xA), (3, yA)] : List Dn).length u3n)]) (.cons (to_holds (t := (⟨0, [], []⟩ : To)) u0va u0vd) (.cons (to_holds (t := (⟨0, [], []⟩ : To)) u1va u1vd) (.cons (to_holds (t := (⟨0, [], []⟩ : To)) u2va u2vd) (.cons (to_holds (t := (⟨0, [ansA 1 0 [], ansA 2 0 []], [(1, xA), (3, yA)]⟩ : To)) u3va u3vd) (.nil))))) rfl (by decide)) ((Upd.refl [] w).alloc _)
set_option maxRecDepth 100000 in
theorem kp_126 (hL : KnL V L) (hB : KnB V w0) : StepK V L w0 126 := by
  intro o f w K Q cx hK
  refine st_fi (s := 3) (e := 4) (cx.op (p := .build 51 #[(0, .const (.int .i64 3)), (1, .const (.int .u8 4))]) (by kernel_rfl)) ?_
  rw [cx.dst]
  exact hK _ w rfl (Upd.refl [] w)
set_option maxRecDepth 100000 in
theorem kp_127 (hL : KnL V L) (hB : KnB V w0) : StepK V L w0 127 := by
  intro o f w K Q cx hK
  obtain ⟨a, ah, ap⟩ := cx.tmp hL.len 126 (by kernel_rfl) 179 rfl (by decide)
  have ae : a = .agg #[.int .i64 3, .int .u8 4] := ap
  subst ae
  refine st_fis (s := 3) (e := 4) (cx.op (p := .buildSlice 44 1 #[(0, .tmp 179)]) (by kernel_rfl)) ah ?_
  rw [cx.dst]
  exact hK _ _ (Kind.put (K := fnK) (l := [(3, 4)]) (css := [[.int .i64 3, .int .u8 4]]) (.cons rfl .nil) rfl (by decide)) ((Upd.refl [] w).alloc _)
set_option maxRecDepth 100000 in
theorem kp_128 (hL : KnL V L) (hB : KnB V w0) : StepK V L w0 128 := by
  intro o f w K Q cx hK
  obtain ⟨a, ah, ap⟩ := cx.tmp hL.len 125 (by kernel_rfl) 178 rfl (by decide)
  have ar : toK.row w (Od w) a [(⟨0, [], []⟩ : To), (⟨0, [], []⟩ : To), (⟨0, [], []⟩ : To), (⟨0, [ansA 1 0 [], ansA 2 0 []], [(1, xA), (3, yA)]⟩ : To)] := ap
  obtain ⟨x, c, rfl, -, -⟩ := Row.slice ar
  obtain ⟨b, bh, bp⟩ := cx.tmp hL.len 127 (by kernel_rfl) 180 rfl (by decide)
  have br : fnK.row w (Od w) b [(3, 4)] := bp
  obtain ⟨y, d, rfl, -, -⟩ := Row.slice br
  refine st_rk2 (cx.op (p := .build 45 #[(0, .tmp 178), (1, .tmp 180)]) (by kernel_rfl)) ah bh ?_
  rw [cx.dst]
  exact hK _ w ⟨_, _, rfl, ar, br⟩ (Upd.refl [] w)
set_option maxRecDepth 100000 in
theorem kp_129 (hL : KnL V L) (hB : KnB V w0) : StepK V L w0 129 := by
  intro o f w K Q cx hK
  refine st_to0 (cx.op (p := .build 49 #[]) (by kernel_rfl)) ?_
  rw [cx.dst]
  exact hK _ w ⟨_, _, rfl, anK.row_nil _ _, dnK.row_nil _ _⟩ (Upd.refl [] w)
set_option maxRecDepth 100000 in
theorem kp_130 (hL : KnL V L) (hB : KnB V w0) : StepK V L w0 130 := by
  intro o f w K Q cx hK
  refine st_move (cx.op (p := .move (.tmp 9)) (by kernel_rfl)) (cx.base hL.len hL.s9 (by decide)) ?_
  rw [cx.dst]
  exact hK _ w rfl (Upd.refl [] w)
set_option maxRecDepth 100000 in
theorem kp_131 (hL : KnL V L) (hB : KnB V w0) : StepK V L w0 131 := by
  intro o f w K Q cx hK
  refine st_move (cx.op (p := .move (.tmp 3)) (by kernel_rfl)) (cx.base hL.len hL.s3 (by decide)) ?_
  rw [cx.dst]
  exact hK _ w rfl (Upd.refl [] w)
set_option maxRecDepth 100000 in
theorem kp_132 (hL : KnL V L) (hB : KnB V w0) : StepK V L w0 132 := by
  intro o f w K Q cx hK
  obtain ⟨a, ah, ap⟩ := cx.tmp hL.len 130 (by kernel_rfl) 183 rfl (by decide)
  obtain ⟨b, bh, bp⟩ := cx.tmp hL.len 131 (by kernel_rfl) 184 rfl (by decide)
  have ae : a = .func (.func 10) #[] #[] := ap
  have be : b = V.sl 0 := bp
  subst ae be
  refine st_call (s := 1) (x0 := V.xx) (m0 := V.xm) (c0 := V.xc) (cx.op (p := .call { callee := .value (.tmp 183), args := #[.const (.int .u64 1), .tmp 184], argTypes := #[32, 27] }) (by kernel_rfl)) ah bh fun w' hu => ?_
  rw [cx.dst]
  exact hK _ w' rfl hu
set_option maxRecDepth 100000 in
theorem kp_133 (hL : KnL V L) (hB : KnB V w0) : StepK V L w0 133 := by
  intro o f w K Q cx hK
  obtain ⟨a, ah, ap⟩ := cx.tmp hL.len 132 (by kernel_rfl) 185 rfl (by decide)
  have ae : a = .agg #[.int .u64 1, V.sl 0] := ap
  subst ae
  refine st_dn1 (s := 1) (x0 := V.xx) (m0 := V.xm) (c0 := V.xc) (cx.op (p := .buildSlice 47 1 #[(0, .tmp 185)]) (by kernel_rfl)) ah ?_
  rw [cx.dst]
  exact hK _ _ (Kind.put (K := dnK) (l := [(1, xA)]) (css := [dnc 1 (V.sl 0)]) (.cons (dn_holds (by decide) (Bts.grow hB.bx cx.upd)) (.nil)) rfl (by decide)) ((Upd.refl [] w).alloc _)
set_option maxRecDepth 100000 in
theorem kp_134 (hL : KnL V L) (hB : KnB V w0) : StepK V L w0 134 := by
  intro o f w K Q cx hK
  refine st_load (s := 1) (e := 2) (cx.op (p := .load 39 (.tmp 12)) (by kernel_rfl)) (cx.base hL.len hL.s12 (by decide)) (hB.wr.upd_nil' cx.upd) ?_
  rw [cx.dst]
  exact hK _ w rfl (Upd.refl [] w)
set_option maxRecDepth 100000 in
theorem kp_135 (hL : KnL V L) (hB : KnB V w0) : StepK V L w0 135 := by
  intro o f w K Q cx hK
  obtain ⟨a, ah, ap⟩ := cx.tmp hL.len 134 (by kernel_rfl) 187 rfl (by decide)
  have ae : a = .agg #[.int .u32 1, .int .u32 1, .int .u8 2, .string ⟨#[]⟩] := ap
  subst ae
  refine st_an1 (s := 1) (e := 2) (cx.op (p := .buildSlice 46 1 #[(0, .tmp 187)]) (by kernel_rfl)) ah ?_
  rw [cx.dst]
  exact hK _ _ (Kind.put (K := anK) (l := [ansA 1 2 []]) (css := [anc (ansA 1 2 [])]) (.cons (an_holds (by decide)) (.nil)) rfl (by decide)) ((Upd.refl [] w).alloc _)
set_option maxRecDepth 100000 in
theorem kp_136 (hL : KnL V L) (hB : KnB V w0) : StepK V L w0 136 := by
  intro o f w K Q cx hK
  obtain ⟨a, ah, ap⟩ := cx.tmp hL.len 133 (by kernel_rfl) 186 rfl (by decide)
  obtain ⟨b, bh, bp⟩ := cx.tmp hL.len 135 (by kernel_rfl) 188 rfl (by decide)
  have ar : dnK.row w (Od w) a [(1, xA)] := ap
  have br : anK.row w (Od w) b [ansA 1 2 []] := bp
  obtain ⟨x, c, rfl, -, -⟩ := Row.slice ar
  obtain ⟨y, d, rfl, -, -⟩ := Row.slice br
  refine st_to2 (cx.op (p := .build 49 #[(4, .tmp 186), (3, .tmp 188)]) (by kernel_rfl)) ah bh ?_
  rw [cx.dst]
  exact hK _ w ⟨_, _, rfl, br, ar⟩ (Upd.refl [] w)
set_option maxRecDepth 100000 in
theorem kp_137 (hL : KnL V L) (hB : KnB V w0) : StepK V L w0 137 := by
  intro o f w K Q cx hK
  obtain ⟨u0, u0h, u0p⟩ := cx.tmp hL.len 129 (by kernel_rfl) 182 rfl (by decide)
  obtain ⟨u0a, u0d, rfl, u0va, u0vd⟩ : ∃ va vd, u0 = .agg #[.int .i64 0, .int .i64 0, .int .i64 0, va, vd] ∧ anK.row w (Od w) va [] ∧ dnK.row w (Od w) vd [] := u0p
  obtain ⟨u0x, u0m, rfl, -, -⟩ := Row.slice u0va
  obtain ⟨u0u, u0n, rfl, -, -⟩ := Row.slice u0vd
  obtain ⟨u1, u1h, u1p⟩ := cx.tmp hL.len 136 (by kernel_rfl) 189 rfl (by decide)
  obtain ⟨u1a, u1d, rfl, u1va, u1vd⟩ : ∃ va vd, u1 = .agg #[.int .i64 0, .int .i64 0, .int .i64 0, va, vd] ∧ anK.row w (Od w) va [ansA 1 2 []] ∧ dnK.row w (Od w) vd [(1, xA)] := u1p
  obtain ⟨u1x, u1m, rfl, -, -⟩ := Row.slice u1va
  obtain ⟨u1u, u1n, rfl, -, -⟩ := Row.slice u1vd
  refine st_tos2 (cx.op (p := .buildSlice 43 2 #[(0, .tmp 182), (1, .tmp 189)]) (by kernel_rfl)) u0h u1h ?_
  rw [cx.dst]
  exact hK _ _ (Kind.put (K := toK) (l := [(⟨0, [], []⟩ : To), (⟨0, [ansA 1 2 []], [(1, xA)]⟩ : To)]) (css := [toc 0 (.slice u0x ([] : List An).length u0m) (.slice u0u ([] : List Dn).length u0n), toc 0 (.slice u1x ([ansA 1 2 []] : List An).length u1m) (.slice u1u ([(1, xA)] : List Dn).length u1n)]) (.cons (to_holds (t := (⟨0, [], []⟩ : To)) u0va u0vd) (.cons (to_holds (t := (⟨0, [ansA 1 2 []], [(1, xA)]⟩ : To)) u1va u1vd) (.nil))) rfl (by decide)) ((Upd.refl [] w).alloc _)
set_option maxRecDepth 100000 in
theorem kp_138 (hL : KnL V L) (hB : KnB V w0) : StepK V L w0 138 := by
  intro o f w K Q cx hK
  refine st_fi (s := 1) (e := 5) (cx.op (p := .build 51 #[(0, .const (.int .i64 1)), (1, .const (.int .u8 5))]) (by kernel_rfl)) ?_
  rw [cx.dst]
  exact hK _ w rfl (Upd.refl [] w)
set_option maxRecDepth 100000 in
theorem kp_139 (hL : KnL V L) (hB : KnB V w0) : StepK V L w0 139 := by
  intro o f w K Q cx hK
  obtain ⟨a, ah, ap⟩ := cx.tmp hL.len 138 (by kernel_rfl) 191 rfl (by decide)
  have ae : a = .agg #[.int .i64 1, .int .u8 5] := ap
  subst ae
  refine st_fis (s := 1) (e := 5) (cx.op (p := .buildSlice 44 1 #[(0, .tmp 191)]) (by kernel_rfl)) ah ?_
  rw [cx.dst]
  exact hK _ _ (Kind.put (K := fnK) (l := [(1, 5)]) (css := [[.int .i64 1, .int .u8 5]]) (.cons rfl .nil) rfl (by decide)) ((Upd.refl [] w).alloc _)
set_option maxRecDepth 100000 in
theorem kp_140 (hL : KnL V L) (hB : KnB V w0) : StepK V L w0 140 := by
  intro o f w K Q cx hK
  obtain ⟨a, ah, ap⟩ := cx.tmp hL.len 137 (by kernel_rfl) 190 rfl (by decide)
  have ar : toK.row w (Od w) a [(⟨0, [], []⟩ : To), (⟨0, [ansA 1 2 []], [(1, xA)]⟩ : To)] := ap
  obtain ⟨x, c, rfl, -, -⟩ := Row.slice ar
  obtain ⟨b, bh, bp⟩ := cx.tmp hL.len 139 (by kernel_rfl) 192 rfl (by decide)
  have br : fnK.row w (Od w) b [(1, 5)] := bp
  obtain ⟨y, d, rfl, -, -⟩ := Row.slice br
  refine st_rk2 (cx.op (p := .build 45 #[(0, .tmp 190), (1, .tmp 192)]) (by kernel_rfl)) ah bh ?_
  rw [cx.dst]
  exact hK _ w ⟨_, _, rfl, ar, br⟩ (Upd.refl [] w)
set_option maxRecDepth 100000 in
theorem kp_141 (hL : KnL V L) (hB : KnB V w0) : StepK V L w0 141 := by
  intro o f w K Q cx hK
  refine st_to0 (cx.op (p := .build 49 #[]) (by kernel_rfl)) ?_
  rw [cx.dst]
  exact hK _ w ⟨_, _, rfl, anK.row_nil _ _, dnK.row_nil _ _⟩ (Upd.refl [] w)
set_option maxRecDepth 100000 in
theorem kp_142 (hL : KnL V L) (hB : KnB V w0) : StepK V L w0 142 := by
  intro o f w K Q cx hK
  refine st_move (cx.op (p := .move (.tmp 9)) (by kernel_rfl)) (cx.base hL.len hL.s9 (by decide)) ?_
  rw [cx.dst]
  exact hK _ w rfl (Upd.refl [] w)
set_option maxRecDepth 100000 in
theorem kp_143 (hL : KnL V L) (hB : KnB V w0) : StepK V L w0 143 := by
  intro o f w K Q cx hK
  refine st_move (cx.op (p := .move (.tmp 3)) (by kernel_rfl)) (cx.base hL.len hL.s3 (by decide)) ?_
  rw [cx.dst]
  exact hK _ w rfl (Upd.refl [] w)
set_option maxRecDepth 100000 in
theorem kp_144 (hL : KnL V L) (hB : KnB V w0) : StepK V L w0 144 := by
  intro o f w K Q cx hK
  obtain ⟨a, ah, ap⟩ := cx.tmp hL.len 142 (by kernel_rfl) 195 rfl (by decide)
  obtain ⟨b, bh, bp⟩ := cx.tmp hL.len 143 (by kernel_rfl) 196 rfl (by decide)
  have ae : a = .func (.func 10) #[] #[] := ap
  have be : b = V.sl 0 := bp
  subst ae be
  refine st_call (s := 1) (x0 := V.xx) (m0 := V.xm) (c0 := V.xc) (cx.op (p := .call { callee := .value (.tmp 195), args := #[.const (.int .u64 1), .tmp 196], argTypes := #[32, 27] }) (by kernel_rfl)) ah bh fun w' hu => ?_
  rw [cx.dst]
  exact hK _ w' rfl hu
set_option maxRecDepth 100000 in
theorem kp_145 (hL : KnL V L) (hB : KnB V w0) : StepK V L w0 145 := by
  intro o f w K Q cx hK
  obtain ⟨a, ah, ap⟩ := cx.tmp hL.len 144 (by kernel_rfl) 197 rfl (by decide)
  have ae : a = .agg #[.int .u64 1, V.sl 0] := ap
  subst ae
  refine st_dn1 (s := 1) (x0 := V.xx) (m0 := V.xm) (c0 := V.xc) (cx.op (p := .buildSlice 47 1 #[(0, .tmp 197)]) (by kernel_rfl)) ah ?_
  rw [cx.dst]
  exact hK _ _ (Kind.put (K := dnK) (l := [(1, xA)]) (css := [dnc 1 (V.sl 0)]) (.cons (dn_holds (by decide) (Bts.grow hB.bx cx.upd)) (.nil)) rfl (by decide)) ((Upd.refl [] w).alloc _)
set_option maxRecDepth 100000 in
theorem kp_146 (hL : KnL V L) (hB : KnB V w0) : StepK V L w0 146 := by
  intro o f w K Q cx hK
  obtain ⟨a, ah, ap⟩ := cx.tmp hL.len 145 (by kernel_rfl) 198 rfl (by decide)
  have ar : dnK.row w (Od w) a [(1, xA)] := ap
  obtain ⟨x, c, rfl, -, -⟩ := Row.slice ar
  refine st_to1 (cx.op (p := .build 49 #[(4, .tmp 198)]) (by kernel_rfl)) ah ?_
  rw [cx.dst]
  exact hK _ w ⟨_, _, rfl, anK.row_nil _ _, ar⟩ (Upd.refl [] w)
set_option maxRecDepth 100000 in
theorem kp_147 (hL : KnL V L) (hB : KnB V w0) : StepK V L w0 147 := by
  intro o f w K Q cx hK
  obtain ⟨u0, u0h, u0p⟩ := cx.tmp hL.len 141 (by kernel_rfl) 194 rfl (by decide)
  obtain ⟨u0a, u0d, rfl, u0va, u0vd⟩ : ∃ va vd, u0 = .agg #[.int .i64 0, .int .i64 0, .int .i64 0, va, vd] ∧ anK.row w (Od w) va [] ∧ dnK.row w (Od w) vd [] := u0p
  obtain ⟨u0x, u0m, rfl, -, -⟩ := Row.slice u0va
  obtain ⟨u0u, u0n, rfl, -, -⟩ := Row.slice u0vd
  obtain ⟨u1, u1h, u1p⟩ := cx.tmp hL.len 146 (by kernel_rfl) 199 rfl (by decide)
  obtain ⟨u1a, u1d, rfl, u1va, u1vd⟩ : ∃ va vd, u1 = .agg #[.int .i64 0, .int .i64 0, .int .i64 0, va, vd] ∧ anK.row w (Od w) va [] ∧ dnK.row w (Od w) vd [(1, xA)] := u1p
  obtain ⟨u1x, u1m, rfl, -, -⟩ := Row.slice u1va
  obtain ⟨u1u, u1n, rfl, -, -⟩ := Row.slice u1vd
  refine st_tos2 (cx.op (p := .buildSlice 43 2 #[(0, .tmp 194), (1, .tmp 199)]) (by kernel_rfl)) u0h u1h ?_
  rw [cx.dst]
  exact hK _ _ (Kind.put (K := toK) (l := [(⟨0, [], []⟩ : To), (⟨0, [], [(1, xA)]⟩ : To)]) (css := [toc 0 (.slice u0x ([] : List An).length u0m) (.slice u0u ([] : List Dn).length u0n), toc 0 (.slice u1x ([] : List An).length u1m) (.slice u1u ([(1, xA)] : List Dn).length u1n)]) (.cons (to_holds (t := (⟨0, [], []⟩ : To)) u0va u0vd) (.cons (to_holds (t := (⟨0, [], [(1, xA)]⟩ : To)) u1va u1vd) (.nil))) rfl (by decide)) ((Upd.refl [] w).alloc _)
set_option maxRecDepth 100000 in
theorem kp_148 (hL : KnL V L) (hB : KnB V w0) : StepK V L w0 148 := by
  intro o f w K Q cx hK
  refine st_fi (s := 1) (e := 5) (cx.op (p := .build 51 #[(0, .const (.int .i64 1)), (1, .const (.int .u8 5))]) (by kernel_rfl)) ?_
  rw [cx.dst]
  exact hK _ w rfl (Upd.refl [] w)
set_option maxRecDepth 100000 in
theorem kp_149 (hL : KnL V L) (hB : KnB V w0) : StepK V L w0 149 := by
  intro o f w K Q cx hK
  obtain ⟨a, ah, ap⟩ := cx.tmp hL.len 148 (by kernel_rfl) 201 rfl (by decide)
  have ae : a = .agg #[.int .i64 1, .int .u8 5] := ap
  subst ae
  refine st_fis (s := 1) (e := 5) (cx.op (p := .buildSlice 44 1 #[(0, .tmp 201)]) (by kernel_rfl)) ah ?_
  rw [cx.dst]
  exact hK _ _ (Kind.put (K := fnK) (l := [(1, 5)]) (css := [[.int .i64 1, .int .u8 5]]) (.cons rfl .nil) rfl (by decide)) ((Upd.refl [] w).alloc _)
set_option maxRecDepth 100000 in
theorem kp_150 (hL : KnL V L) (hB : KnB V w0) : StepK V L w0 150 := by
  intro o f w K Q cx hK
  obtain ⟨a, ah, ap⟩ := cx.tmp hL.len 147 (by kernel_rfl) 200 rfl (by decide)
  have ar : toK.row w (Od w) a [(⟨0, [], []⟩ : To), (⟨0, [], [(1, xA)]⟩ : To)] := ap
  obtain ⟨x, c, rfl, -, -⟩ := Row.slice ar
  obtain ⟨b, bh, bp⟩ := cx.tmp hL.len 149 (by kernel_rfl) 202 rfl (by decide)
  have br : fnK.row w (Od w) b [(1, 5)] := bp
  obtain ⟨y, d, rfl, -, -⟩ := Row.slice br
  refine st_rk2 (cx.op (p := .build 45 #[(0, .tmp 200), (1, .tmp 202)]) (by kernel_rfl)) ah bh ?_
  rw [cx.dst]
  exact hK _ w ⟨_, _, rfl, ar, br⟩ (Upd.refl [] w)
set_option maxRecDepth 100000 in
theorem kp_151 (hL : KnL V L) (hB : KnB V w0) : StepK V L w0 151 := by
  intro o f w K Q cx hK
  refine st_to0 (cx.op (p := .build 49 #[]) (by kernel_rfl)) ?_
  rw [cx.dst]
  exact hK _ w ⟨_, _, rfl, anK.row_nil _ _, dnK.row_nil _ _⟩ (Upd.refl [] w)
set_option maxRecDepth 100000 in
theorem kp_152 (hL : KnL V L) (hB : KnB V w0) : StepK V L w0 152 := by
  intro o f w K Q cx hK
  refine st_move (cx.op (p := .move (.tmp 9)) (by kernel_rfl)) (cx.base hL.len hL.s9 (by decide)) ?_
  rw [cx.dst]
  exact hK _ w rfl (Upd.refl [] w)
set_option maxRecDepth 100000 in
theorem kp_153 (hL : KnL V L) (hB : KnB V w0) : StepK V L w0 153 := by
  intro o f w K Q cx hK
  refine st_move (cx.op (p := .move (.tmp 3)) (by kernel_rfl)) (cx.base hL.len hL.s3 (by decide)) ?_
  rw [cx.dst]
  exact hK _ w rfl (Upd.refl [] w)
set_option maxRecDepth 100000 in
theorem kp_154 (hL : KnL V L) (hB : KnB V w0) : StepK V L w0 154 := by
  intro o f w K Q cx hK
  obtain ⟨a, ah, ap⟩ := cx.tmp hL.len 152 (by kernel_rfl) 205 rfl (by decide)
  obtain ⟨b, bh, bp⟩ := cx.tmp hL.len 153 (by kernel_rfl) 206 rfl (by decide)
  have ae : a = .func (.func 10) #[] #[] := ap
  have be : b = V.sl 0 := bp
  subst ae be
  refine st_call (s := 2) (x0 := V.xx) (m0 := V.xm) (c0 := V.xc) (cx.op (p := .call { callee := .value (.tmp 205), args := #[.const (.int .u64 2), .tmp 206], argTypes := #[32, 27] }) (by kernel_rfl)) ah bh fun w' hu => ?_
  rw [cx.dst]
  exact hK _ w' rfl hu
set_option maxRecDepth 100000 in
theorem kp_155 (hL : KnL V L) (hB : KnB V w0) : StepK V L w0 155 := by
  intro o f w K Q cx hK
  obtain ⟨a, ah, ap⟩ := cx.tmp hL.len 154 (by kernel_rfl) 207 rfl (by decide)
  have ae : a = .agg #[.int .u64 2, V.sl 0] := ap
  subst ae
  refine st_dn1 (s := 2) (x0 := V.xx) (m0 := V.xm) (c0 := V.xc) (cx.op (p := .buildSlice 47 1 #[(0, .tmp 207)]) (by kernel_rfl)) ah ?_
  rw [cx.dst]
  exact hK _ _ (Kind.put (K := dnK) (l := [(2, xA)]) (css := [dnc 2 (V.sl 0)]) (.cons (dn_holds (by decide) (Bts.grow hB.bx cx.upd)) (.nil)) rfl (by decide)) ((Upd.refl [] w).alloc _)
set_option maxRecDepth 100000 in
theorem kp_156 (hL : KnL V L) (hB : KnB V w0) : StepK V L w0 156 := by
  intro o f w K Q cx hK
  refine st_load (s := 1) (e := 0) (cx.op (p := .load 39 (.tmp 10)) (by kernel_rfl)) (cx.base hL.len hL.s10 (by decide)) (hB.p.upd_nil' cx.upd) ?_
  rw [cx.dst]
  exact hK _ w rfl (Upd.refl [] w)
set_option maxRecDepth 100000 in
theorem kp_157 (hL : KnL V L) (hB : KnB V w0) : StepK V L w0 157 := by
  intro o f w K Q cx hK
  obtain ⟨a, ah, ap⟩ := cx.tmp hL.len 156 (by kernel_rfl) 209 rfl (by decide)
  have ae : a = .agg #[.int .u32 1, .int .u32 1, .int .u8 0, .string ⟨#[]⟩] := ap
  subst ae
  refine st_an1 (s := 1) (e := 0) (cx.op (p := .buildSlice 46 1 #[(0, .tmp 209)]) (by kernel_rfl)) ah ?_
  rw [cx.dst]
  exact hK _ _ (Kind.put (K := anK) (l := [ansA 1 0 []]) (css := [anc (ansA 1 0 [])]) (.cons (an_holds (by decide)) (.nil)) rfl (by decide)) ((Upd.refl [] w).alloc _)
set_option maxRecDepth 100000 in
theorem kp_158 (hL : KnL V L) (hB : KnB V w0) : StepK V L w0 158 := by
  intro o f w K Q cx hK
  obtain ⟨a, ah, ap⟩ := cx.tmp hL.len 155 (by kernel_rfl) 208 rfl (by decide)
  obtain ⟨b, bh, bp⟩ := cx.tmp hL.len 157 (by kernel_rfl) 210 rfl (by decide)
  have ar : dnK.row w (Od w) a [(2, xA)] := ap
  have br : anK.row w (Od w) b [ansA 1 0 []] := bp
  obtain ⟨x, c, rfl, -, -⟩ := Row.slice ar
  obtain ⟨y, d, rfl, -, -⟩ := Row.slice br
  refine st_to2 (cx.op (p := .build 49 #[(4, .tmp 208), (3, .tmp 210)]) (by kernel_rfl)) ah bh ?_
  rw [cx.dst]
  exact hK _ w ⟨_, _, rfl, br, ar⟩ (Upd.refl [] w)
set_option maxRecDepth 100000 in
theorem kp_159 (hL : KnL V L) (hB : KnB V w0) : StepK V L w0 159 := by
  intro o f w K Q cx hK
  refine st_to0 (cx.op (p := .build 49 #[]) (by kernel_rfl)) ?_
  rw [cx.dst]
  exact hK _ w ⟨_, _, rfl, anK.row_nil _ _, dnK.row_nil _ _⟩ (Upd.refl [] w)
set_option maxRecDepth 100000 in
theorem kp_160 (hL : KnL V L) (hB : KnB V w0) : StepK V L w0 160 := by
  intro o f w K Q cx hK
  refine st_move (cx.op (p := .move (.tmp 9)) (by kernel_rfl)) (cx.base hL.len hL.s9 (by decide)) ?_
  rw [cx.dst]
  exact hK _ w rfl (Upd.refl [] w)
set_option maxRecDepth 100000 in
theorem kp_161 (hL : KnL V L) (hB : KnB V w0) : StepK V L w0 161 := by
  intro o f w K Q cx hK
  refine st_move (cx.op (p := .move (.tmp 5)) (by kernel_rfl)) (cx.base hL.len hL.s5 (by decide)) ?_
  rw [cx.dst]
  exact hK _ w rfl (Upd.refl [] w)
set_option maxRecDepth 100000 in
theorem kp_162 (hL : KnL V L) (hB : KnB V w0) : StepK V L w0 162 := by
  intro o f w K Q cx hK
  obtain ⟨a, ah, ap⟩ := cx.tmp hL.len 160 (by kernel_rfl) 213 rfl (by decide)
  obtain ⟨b, bh, bp⟩ := cx.tmp hL.len 161 (by kernel_rfl) 214 rfl (by decide)
  have ae : a = .func (.func 10) #[] #[] := ap
  have be : b = V.sl 1 := bp
  subst ae be
  refine st_call (s := 1) (x0 := V.yx) (m0 := V.ym) (c0 := V.yc) (cx.op (p := .call { callee := .value (.tmp 213), args := #[.const (.int .u64 1), .tmp 214], argTypes := #[32, 27] }) (by kernel_rfl)) ah bh fun w' hu => ?_
  rw [cx.dst]
  exact hK _ w' rfl hu
set_option maxRecDepth 100000 in
theorem kp_163 (hL : KnL V L) (hB : KnB V w0) : StepK V L w0 163 := by
  intro o f w K Q cx hK
  obtain ⟨a, ah, ap⟩ := cx.tmp hL.len 162 (by kernel_rfl) 215 rfl (by decide)
  have ae : a = .agg #[.int .u64 1, V.sl 1] := ap
  subst ae
  refine st_dn1 (s := 1) (x0 := V.yx) (m0 := V.ym) (c0 := V.yc) (cx.op (p := .buildSlice 47 1 #[(0, .tmp 215)]) (by kernel_rfl)) ah ?_
  rw [cx.dst]
  exact hK _ _ (Kind.put (K := dnK) (l := [(1, yA)]) (css := [dnc 1 (V.sl 1)]) (.cons (dn_holds (by decide) (Bts.grow hB.by' cx.upd)) (.nil)) rfl (by decide)) ((Upd.refl [] w).alloc _)
set_option maxRecDepth 100000 in
theorem kp_164 (hL : KnL V L) (hB : KnB V w0) : StepK V L w0 164 := by
  intro o f w K Q cx hK
  refine st_load (s := 2) (e := 0) (cx.op (p := .load 39 (.tmp 11)) (by kernel_rfl)) (cx.base hL.len hL.s11 (by decide)) (hB.q.upd_nil' cx.upd) ?_
  rw [cx.dst]
  exact hK _ w rfl (Upd.refl [] w)
set_option maxRecDepth 100000 in
theorem kp_165 (hL : KnL V L) (hB : KnB V w0) : StepK V L w0 165 := by
  intro o f w K Q cx hK
  obtain ⟨a, ah, ap⟩ := cx.tmp hL.len 164 (by kernel_rfl) 217 rfl (by decide)
  have ae : a = .agg #[.int .u32 2, .int .u32 1, .int .u8 0, .string ⟨#[]⟩] := ap
  subst ae
  refine st_an1 (s := 2) (e := 0) (cx.op (p := .buildSlice 46 1 #[(0, .tmp 217)]) (by kernel_rfl)) ah ?_
  rw [cx.dst]
  exact hK _ _ (Kind.put (K := anK) (l := [ansA 2 0 []]) (css := [anc (ansA 2 0 [])]) (.cons (an_holds (by decide)) (.nil)) rfl (by decide)) ((Upd.refl [] w).alloc _)
set_option maxRecDepth 100000 in
theorem kp_166 (hL : KnL V L) (hB : KnB V w0) : StepK V L w0 166 := by
  intro o f w K Q cx hK
  obtain ⟨a, ah, ap⟩ := cx.tmp hL.len 163 (by kernel_rfl) 216 rfl (by decide)
  obtain ⟨b, bh, bp⟩ := cx.tmp hL.len 165 (by kernel_rfl) 218 rfl (by decide)
  have ar : dnK.row w (Od w) a [(1, yA)] := ap
  have br : anK.row w (Od w) b [ansA 2 0 []] := bp
  obtain ⟨x, c, rfl, -, -⟩ := Row.slice ar
  obtain ⟨y, d, rfl, -, -⟩ := Row.slice br
  refine st_to2 (cx.op (p := .build 49 #[(4, .tmp 216), (3, .tmp 218)]) (by kernel_rfl)) ah bh ?_
  rw [cx.dst]
  exact hK _ w ⟨_, _, rfl, br, ar⟩ (Upd.refl [] w)
set_option maxRecDepth 100000 in
theorem kp_167 (hL : KnL V L) (hB : KnB V w0) : StepK V L w0 167 := by
  intro o f w K Q cx hK
  obtain ⟨u0, u0h, u0p⟩ := cx.tmp hL.len 151 (by kernel_rfl) 204 rfl (by decide)
  obtain ⟨u0a, u0d, rfl, u0va, u0vd⟩ : ∃ va vd, u0 = .agg #[.int .i64 0, .int .i64 0, .int .i64 0, va, vd] ∧ anK.row w (Od w) va [] ∧ dnK.row w (Od w) vd [] := u0p
  obtain ⟨u0x, u0m, rfl, -, -⟩ := Row.slice u0va
  obtain ⟨u0u, u0n, rfl, -, -⟩ := Row.slice u0vd
  obtain ⟨u1, u1h, u1p⟩ := cx.tmp hL.len 158 (by kernel_rfl) 211 rfl (by decide)
  obtain ⟨u1a, u1d, rfl, u1va, u1vd⟩ : ∃ va vd, u1 = .agg #[.int .i64 0, .int .i64 0, .int .i64 0, va, vd] ∧ anK.row w (Od w) va [ansA 1 0 []] ∧ dnK.row w (Od w) vd [(2, xA)] := u1p
  obtain ⟨u1x, u1m, rfl, -, -⟩ := Row.slice u1va
  obtain ⟨u1u, u1n, rfl, -, -⟩ := Row.slice u1vd
  obtain ⟨u2, u2h, u2p⟩ := cx.tmp hL.len 159 (by kernel_rfl) 212 rfl (by decide)
  obtain ⟨u2a, u2d, rfl, u2va, u2vd⟩ : ∃ va vd, u2 = .agg #[.int .i64 0, .int .i64 0, .int .i64 0, va, vd] ∧ anK.row w (Od w) va [] ∧ dnK.row w (Od w) vd [] := u2p
  obtain ⟨u2x, u2m, rfl, -, -⟩ := Row.slice u2va
  obtain ⟨u2u, u2n, rfl, -, -⟩ := Row.slice u2vd
  obtain ⟨u3, u3h, u3p⟩ := cx.tmp hL.len 166 (by kernel_rfl) 219 rfl (by decide)
  obtain ⟨u3a, u3d, rfl, u3va, u3vd⟩ : ∃ va vd, u3 = .agg #[.int .i64 0, .int .i64 0, .int .i64 0, va, vd] ∧ anK.row w (Od w) va [ansA 2 0 []] ∧ dnK.row w (Od w) vd [(1, yA)] := u3p
  obtain ⟨u3x, u3m, rfl, -, -⟩ := Row.slice u3va
  obtain ⟨u3u, u3n, rfl, -, -⟩ := Row.slice u3vd
  refine st_tos4 (cx.op (p := .buildSlice 43 4 #[(0, .tmp 204), (1, .tmp 211), (2, .tmp 212), (3, .tmp 219)]) (by kernel_rfl)) u0h u1h u2h u3h ?_
  rw [cx.dst]
  exact hK _ _ (Kind.put (K := toK) (l := [(⟨0, [], []⟩ : To), (⟨0, [ansA 1 0 []], [(2, xA)]⟩ : To), (⟨0, [], []⟩ : To), (⟨0, [ansA 2 0 []], [(1, yA)]⟩ : To)]) (css := [toc 0 (.slice u0x ([] : List An).length u0m) (.slice u0u ([] : List Dn).length u0n), toc 0 (.slice u1x ([ansA 1 0 []] : List An).length u1m) (.slice u1u ([(2, xA)] : List Dn).length u1n), toc 0 (.slice u2x ([] : List An).length u2m) (.slice u2u ([] : List Dn).length u2n), toc 0 (.slice u3x ([ansA 2 0 []] : List An).length u3m) (.slice u3u ([(1, yA)] : List Dn).length u3n)]) (.cons (to_holds (t := (⟨0, [], []⟩ : To)) u0va u0vd) (.cons (to_holds (t := (⟨0, [ansA 1 0 []], [(2, xA)]⟩ : To)) u1va u1vd) (.cons (to_holds (t := (⟨0, [], []⟩ : To)) u2va u2vd) (.cons (to_holds (t := (⟨0, [ansA 2 0 []], [(1, yA)]⟩ : To)) u3va u3vd) (.nil))))) rfl (by decide)) ((Upd.refl [] w).alloc _)
set_option maxRecDepth 100000 in
theorem kp_168 (hL : KnL V L) (hB : KnB V w0) : StepK V L w0 168 := by
  intro o f w K Q cx hK
  refine st_fi (s := 2) (e := 6) (cx.op (p := .build 51 #[(0, .const (.int .i64 2)), (1, .const (.int .u8 6))]) (by kernel_rfl)) ?_
  rw [cx.dst]
  exact hK _ w rfl (Upd.refl [] w)
set_option maxRecDepth 100000 in
theorem kp_169 (hL : KnL V L) (hB : KnB V w0) : StepK V L w0 169 := by
  intro o f w K Q cx hK
  obtain ⟨a, ah, ap⟩ := cx.tmp hL.len 168 (by kernel_rfl) 221 rfl (by decide)
  have ae : a = .agg #[.int .i64 2, .int .u8 6] := ap
  subst ae
  refine st_fis (s := 2) (e := 6) (cx.op (p := .buildSlice 44 1 #[(0, .tmp 221)]) (by kernel_rfl)) ah ?_
  rw [cx.dst]
  exact hK _ _ (Kind.put (K := fnK) (l := [(2, 6)]) (css := [[.int .i64 2, .int .u8 6]]) (.cons rfl .nil) rfl (by decide)) ((Upd.refl [] w).alloc _)
set_option maxRecDepth 100000 in
theorem kp_170 (hL : KnL V L) (hB : KnB V w0) : StepK V L w0 170 := by
  intro o f w K Q cx hK
  obtain ⟨a, ah, ap⟩ := cx.tmp hL.len 167 (by kernel_rfl) 220 rfl (by decide)
  have ar : toK.row w (Od w) a [(⟨0, [], []⟩ : To), (⟨0, [ansA 1 0 []], [(2, xA)]⟩ : To), (⟨0, [], []⟩ : To), (⟨0, [ansA 2 0 []], [(1, yA)]⟩ : To)] := ap
  obtain ⟨x, c, rfl, -, -⟩ := Row.slice ar
  obtain ⟨b, bh, bp⟩ := cx.tmp hL.len 169 (by kernel_rfl) 222 rfl (by decide)
  have br : fnK.row w (Od w) b [(2, 6)] := bp
  obtain ⟨y, d, rfl, -, -⟩ := Row.slice br
  refine st_rk2 (cx.op (p := .build 45 #[(0, .tmp 220), (1, .tmp 222)]) (by kernel_rfl)) ah bh ?_
  rw [cx.dst]
  exact hK _ w ⟨_, _, rfl, ar, br⟩ (Upd.refl [] w)
set_option maxRecDepth 100000 in
theorem kp_171 (hL : KnL V L) (hB : KnB V w0) : StepK V L w0 171 := by
  intro o f w K Q cx hK
  refine st_to0 (cx.op (p := .build 49 #[]) (by kernel_rfl)) ?_
  rw [cx.dst]
  exact hK _ w ⟨_, _, rfl, anK.row_nil _ _, dnK.row_nil _ _⟩ (Upd.refl [] w)
set_option maxRecDepth 100000 in
theorem kp_172 (hL : KnL V L) (hB : KnB V w0) : StepK V L w0 172 := by
  intro o f w K Q cx hK
  refine st_to0 (cx.op (p := .build 49 #[]) (by kernel_rfl)) ?_
  rw [cx.dst]
  exact hK _ w ⟨_, _, rfl, anK.row_nil _ _, dnK.row_nil _ _⟩ (Upd.refl [] w)
set_option maxRecDepth 100000 in
theorem kp_173 (hL : KnL V L) (hB : KnB V w0) : StepK V L w0 173 := by
  intro o f w K Q cx hK
  refine st_to0 (cx.op (p := .build 49 #[]) (by kernel_rfl)) ?_
  rw [cx.dst]
  exact hK _ w ⟨_, _, rfl, anK.row_nil _ _, dnK.row_nil _ _⟩ (Upd.refl [] w)
set_option maxRecDepth 100000 in
theorem kp_174 (hL : KnL V L) (hB : KnB V w0) : StepK V L w0 174 := by
  intro o f w K Q cx hK
  refine st_move (cx.op (p := .move (.tmp 9)) (by kernel_rfl)) (cx.base hL.len hL.s9 (by decide)) ?_
  rw [cx.dst]
  exact hK _ w rfl (Upd.refl [] w)
set_option maxRecDepth 100000 in
theorem kp_175 (hL : KnL V L) (hB : KnB V w0) : StepK V L w0 175 := by
  intro o f w K Q cx hK
  refine st_move (cx.op (p := .move (.tmp 7)) (by kernel_rfl)) (cx.base hL.len hL.s7 (by decide)) ?_
  rw [cx.dst]
  exact hK _ w rfl (Upd.refl [] w)
set_option maxRecDepth 100000 in
theorem kp_176 (hL : KnL V L) (hB : KnB V w0) : StepK V L w0 176 := by
  intro o f w K Q cx hK
  obtain ⟨a, ah, ap⟩ := cx.tmp hL.len 174 (by kernel_rfl) 227 rfl (by decide)
  obtain ⟨b, bh, bp⟩ := cx.tmp hL.len 175 (by kernel_rfl) 228 rfl (by decide)
  have ae : a = .func (.func 10) #[] #[] := ap
  have be : b = V.sl 2 := bp
  subst ae be
  refine st_call (s := 1) (x0 := V.zx) (m0 := V.zm) (c0 := V.zc) (cx.op (p := .call { callee := .value (.tmp 227), args := #[.const (.int .u64 1), .tmp 228], argTypes := #[32, 27] }) (by kernel_rfl)) ah bh fun w' hu => ?_
  rw [cx.dst]
  exact hK _ w' rfl hu
set_option maxRecDepth 100000 in
theorem kp_177 (hL : KnL V L) (hB : KnB V w0) : StepK V L w0 177 := by
  intro o f w K Q cx hK
  obtain ⟨a, ah, ap⟩ := cx.tmp hL.len 176 (by kernel_rfl) 229 rfl (by decide)
  have ae : a = .agg #[.int .u64 1, V.sl 2] := ap
  subst ae
  refine st_dn1 (s := 1) (x0 := V.zx) (m0 := V.zm) (c0 := V.zc) (cx.op (p := .buildSlice 47 1 #[(0, .tmp 229)]) (by kernel_rfl)) ah ?_
  rw [cx.dst]
  exact hK _ _ (Kind.put (K := dnK) (l := [(1, xyA)]) (css := [dnc 1 (V.sl 2)]) (.cons (dn_holds (by decide) (Bts.grow hB.bz cx.upd)) (.nil)) rfl (by decide)) ((Upd.refl [] w).alloc _)
set_option maxRecDepth 100000 in
theorem kp_178 (hL : KnL V L) (hB : KnB V w0) : StepK V L w0 178 := by
  intro o f w K Q cx hK
  refine st_load (s := 1) (e := 0) (cx.op (p := .load 39 (.tmp 10)) (by kernel_rfl)) (cx.base hL.len hL.s10 (by decide)) (hB.p.upd_nil' cx.upd) ?_
  rw [cx.dst]
  exact hK _ w rfl (Upd.refl [] w)
set_option maxRecDepth 100000 in
theorem kp_179 (hL : KnL V L) (hB : KnB V w0) : StepK V L w0 179 := by
  intro o f w K Q cx hK
  refine st_load (s := 2) (e := 0) (cx.op (p := .load 39 (.tmp 11)) (by kernel_rfl)) (cx.base hL.len hL.s11 (by decide)) (hB.q.upd_nil' cx.upd) ?_
  rw [cx.dst]
  exact hK _ w rfl (Upd.refl [] w)
set_option maxRecDepth 100000 in
theorem kp_180 (hL : KnL V L) (hB : KnB V w0) : StepK V L w0 180 := by
  intro o f w K Q cx hK
  obtain ⟨a, ah, ap⟩ := cx.tmp hL.len 178 (by kernel_rfl) 231 rfl (by decide)
  have ae : a = .agg #[.int .u32 1, .int .u32 1, .int .u8 0, .string ⟨#[]⟩] := ap
  subst ae
  obtain ⟨b, bh, bp⟩ := cx.tmp hL.len 179 (by kernel_rfl) 232 rfl (by decide)
  have be : b = .agg #[.int .u32 2, .int .u32 1, .int .u8 0, .string ⟨#[]⟩] := bp
  subst be
  refine st_an2 (s := 1) (e := 0) (s' := 2) (e1 := 0) (cx.op (p := .buildSlice 46 2 #[(0, .tmp 231), (1, .tmp 232)]) (by kernel_rfl)) ah bh ?_
  rw [cx.dst]
  exact hK _ _ (Kind.put (K := anK) (l := [ansA 1 0 [], ansA 2 0 []]) (css := [anc (ansA 1 0 []), anc (ansA 2 0 [])]) (.cons (an_holds (by decide)) (.cons (an_holds (by decide)) (.nil))) rfl (by decide)) ((Upd.refl [] w).alloc _)
set_option maxRecDepth 100000 in
theorem kp_181 (hL : KnL V L) (hB : KnB V w0) : StepK V L w0 181 := by
  intro o f w K Q cx hK
  obtain ⟨a, ah, ap⟩ := cx.tmp hL.len 177 (by kernel_rfl) 230 rfl (by decide)
  obtain ⟨b, bh, bp⟩ := cx.tmp hL.len 180 (by kernel_rfl) 233 rfl (by decide)
  have ar : dnK.row w (Od w) a [(1, xyA)] := ap
  have br : anK.row w (Od w) b [ansA 1 0 [], ansA 2 0 []] := bp
  obtain ⟨x, c, rfl, -, -⟩ := Row.slice ar
  obtain ⟨y, d, rfl, -, -⟩ := Row.slice br
  refine st_to2 (cx.op (p := .build 49 #[(4, .tmp 230), (3, .tmp 233)]) (by kernel_rfl)) ah bh ?_
  rw [cx.dst]
  exact hK _ w ⟨_, _, rfl, br, ar⟩ (Upd.refl [] w)
set_option maxRecDepth 100000 in
theorem kp_182 (hL : KnL V L) (hB : KnB V w0) : StepK V L w0 182 := by
  intro o f w K Q cx hK
  refine st_move (cx.op (p := .move (.tmp 9)) (by kernel_rfl)) (cx.base hL.len hL.s9 (by decide)) ?_
  rw [cx.dst]
  exact hK _ w rfl (Upd.refl [] w)
set_option maxRecDepth 100000 in
theorem kp_183 (hL : KnL V L) (hB : KnB V w0) : StepK V L w0 183 := by
  intro o f w K Q cx hK
  refine st_move (cx.op (p := .move (.tmp 7)) (by kernel_rfl)) (cx.base hL.len hL.s7 (by decide)) ?_
  rw [cx.dst]
  exact hK _ w rfl (Upd.refl [] w)
set_option maxRecDepth 100000 in
theorem kp_184 (hL : KnL V L) (hB : KnB V w0) : StepK V L w0 184 := by
  intro o f w K Q cx hK
  obtain ⟨a, ah, ap⟩ := cx.tmp hL.len 182 (by kernel_rfl) 235 rfl (by decide)
  obtain ⟨b, bh, bp⟩ := cx.tmp hL.len 183 (by kernel_rfl) 236 rfl (by decide)
  have ae : a = .func (.func 10) #[] #[] := ap
  have be : b = V.sl 2 := bp
  subst ae be
  refine st_call (s := 1) (x0 := V.zx) (m0 := V.zm) (c0 := V.zc) (cx.op (p := .call { callee := .value (.tmp 235), args := #[.const (.int .u64 1), .tmp 236], argTypes := #[32, 27] }) (by kernel_rfl)) ah bh fun w' hu => ?_
  rw [cx.dst]
  exact hK _ w' rfl hu
set_option maxRecDepth 100000 in
theorem kp_185 (hL : KnL V L) (hB : KnB V w0) : StepK V L w0 185 := by
  intro o f w K Q cx hK
  obtain ⟨a, ah, ap⟩ := cx.tmp hL.len 184 (by kernel_rfl) 237 rfl (by decide)
  have ae : a = .agg #[.int .u64 1, V.sl 2] := ap
  subst ae
  refine st_dn1 (s := 1) (x0 := V.zx) (m0 := V.zm) (c0 := V.zc) (cx.op (p := .buildSlice 47 1 #[(0, .tmp 237)]) (by kernel_rfl)) ah ?_
  rw [cx.dst]
  exact hK _ _ (Kind.put (K := dnK) (l := [(1, xyA)]) (css := [dnc 1 (V.sl 2)]) (.cons (dn_holds (by decide) (Bts.grow hB.bz cx.upd)) (.nil)) rfl (by decide)) ((Upd.refl [] w).alloc _)
set_option maxRecDepth 100000 in
theorem kp_186 (hL : KnL V L) (hB : KnB V w0) : StepK V L w0 186 := by
  intro o f w K Q cx hK
  obtain ⟨a, ah, ap⟩ := cx.tmp hL.len 185 (by kernel_rfl) 238 rfl (by decide)
  have ar : dnK.row w (Od w) a [(1, xyA)] := ap
  obtain ⟨x, c, rfl, -, -⟩ := Row.slice ar
  refine st_to1 (cx.op (p := .build 49 #[(4, .tmp 238)]) (by kernel_rfl)) ah ?_
  rw [cx.dst]
  exact hK _ w ⟨_, _, rfl, anK.row_nil _ _, ar⟩ (Upd.refl [] w)
set_option maxRecDepth 100000 in
theorem kp_187 (hL : KnL V L) (hB : KnB V w0) : StepK V L w0 187 := by
  intro o f w K Q cx hK
  obtain ⟨u0, u0h, u0p⟩ := cx.tmp hL.len 171 (by kernel_rfl) 224 rfl (by decide)
  obtain ⟨u0a, u0d, rfl, u0va, u0vd⟩ : ∃ va vd, u0 = .agg #[.int .i64 0, .int .i64 0, .int .i64 0, va, vd] ∧ anK.row w (Od w) va [] ∧ dnK.row w (Od w) vd [] := u0p
  obtain ⟨u0x, u0m, rfl, -, -⟩ := Row.slice u0va
  obtain ⟨u0u, u0n, rfl, -, -⟩ := Row.slice u0vd
  obtain ⟨u1, u1h, u1p⟩ := cx.tmp hL.len 172 (by kernel_rfl) 225 rfl (by decide)
  obtain ⟨u1a, u1d, rfl, u1va, u1vd⟩ : ∃ va vd, u1 = .agg #[.int .i64 0, .int .i64 0, .int .i64 0, va, vd] ∧ anK.row w (Od w) va [] ∧ dnK.row w (Od w) vd [] := u1p
  obtain ⟨u1x, u1m, rfl, -, -⟩ := Row.slice u1va
  obtain ⟨u1u, u1n, rfl, -, -⟩ := Row.slice u1vd
  obtain ⟨u2, u2h, u2p⟩ := cx.tmp hL.len 173 (by kernel_rfl) 226 rfl (by decide)
  obtain ⟨u2a, u2d, rfl, u2va, u2vd⟩ : ∃ va vd, u2 = .agg #[.int .i64 0, .int .i64 0, .int .i64 0, va, vd] ∧ anK.row w (Od w) va [] ∧ dnK.row w (Od w) vd [] := u2p
  obtain ⟨u2x, u2m, rfl, -, -⟩ := Row.slice u2va
  obtain ⟨u2u, u2n, rfl, -, -⟩ := Row.slice u2vd
  obtain ⟨u3, u3h, u3p⟩ := cx.tmp hL.len 181 (by kernel_rfl) 234 rfl (by decide)
  obtain ⟨u3a, u3d, rfl, u3va, u3vd⟩ : ∃ va vd, u3 = .agg #[.int .i64 0, .int .i64 0, .int .i64 0, va, vd] ∧ anK.row w (Od w) va [ansA 1 0 [], ansA 2 0 []] ∧ dnK.row w (Od w) vd [(1, xyA)] := u3p
  obtain ⟨u3x, u3m, rfl, -, -⟩ := Row.slice u3va
  obtain ⟨u3u, u3n, rfl, -, -⟩ := Row.slice u3vd
  obtain ⟨u4, u4h, u4p⟩ := cx.tmp hL.len 186 (by kernel_rfl) 239 rfl (by decide)
  obtain ⟨u4a, u4d, rfl, u4va, u4vd⟩ : ∃ va vd, u4 = .agg #[.int .i64 0, .int .i64 0, .int .i64 0, va, vd] ∧ anK.row w (Od w) va [] ∧ dnK.row w (Od w) vd [(1, xyA)] := u4p
  obtain ⟨u4x, u4m, rfl, -, -⟩ := Row.slice u4va
  obtain ⟨u4u, u4n, rfl, -, -⟩ := Row.slice u4vd
  refine st_tos5 (cx.op (p := .buildSlice 43 5 #[(0, .tmp 224), (1, .tmp 225), (2, .tmp 226), (3, .tmp 234), (4, .tmp 239)]) (by kernel_rfl)) u0h u1h u2h u3h u4h ?_
  rw [cx.dst]
  exact hK _ _ (Kind.put (K := toK) (l := [(⟨0, [], []⟩ : To), (⟨0, [], []⟩ : To), (⟨0, [], []⟩ : To), (⟨0, [ansA 1 0 [], ansA 2 0 []], [(1, xyA)]⟩ : To), (⟨0, [], [(1, xyA)]⟩ : To)]) (css := [toc 0 (.slice u0x ([] : List An).length u0m) (.slice u0u ([] : List Dn).length u0n), toc 0 (.slice u1x ([] : List An).length u1m) (.slice u1u ([] : List Dn).length u1n), toc 0 (.slice u2x ([] : List An).length u2m) (.slice u2u ([] : List Dn).length u2n), toc 0 (.slice u3x ([ansA 1 0 [], ansA 2 0 []] : List An).length u3m) (.slice u3u ([(1, xyA)] : List Dn).length u3n), toc 0 (.slice u4x ([] : List An).length u4m) (.slice u4u ([(1, xyA)] : List Dn).length u4n)]) (.cons (to_holds (t := (⟨0, [], []⟩ : To)) u0va u0vd) (.cons (to_holds (t := (⟨0, [], []⟩ : To)) u1va u1vd) (.cons (to_holds (t := (⟨0, [], []⟩ : To)) u2va u2vd) (.cons (to_holds (t := (⟨0, [ansA 1 0 [], ansA 2 0 []], [(1, xyA)]⟩ : To)) u3va u3vd) (.cons (to_holds (t := (⟨0, [], [(1, xyA)]⟩ : To)) u4va u4vd) (.nil)))))) rfl (by decide)) ((Upd.refl [] w).alloc _)
set_option maxRecDepth 100000 in
theorem kp_188 (hL : KnL V L) (hB : KnB V w0) : StepK V L w0 188 := by
  intro o f w K Q cx hK
  obtain ⟨a, ah, ap⟩ := cx.tmp hL.len 187 (by kernel_rfl) 240 rfl (by decide)
  have ar : toK.row w (Od w) a [(⟨0, [], []⟩ : To), (⟨0, [], []⟩ : To), (⟨0, [], []⟩ : To), (⟨0, [ansA 1 0 [], ansA 2 0 []], [(1, xyA)]⟩ : To), (⟨0, [], [(1, xyA)]⟩ : To)] := ap
  obtain ⟨x, c, rfl, -, -⟩ := Row.slice ar
  refine st_rk1 (cx.op (p := .build 45 #[(0, .tmp 240), (1, .const (.slice none 0 0))]) (by kernel_rfl)) ah ?_
  rw [cx.dst]
  exact hK _ w ⟨_, _, rfl, ar, fnK.row_nil _ _⟩ (Upd.refl [] w)
set_option maxRecDepth 100000 in
theorem kp_189 (hL : KnL V L) (hB : KnB V w0) : StepK V L w0 189 := by
  intro o f w K Q cx hK
  obtain ⟨r0, r0h, r0p⟩ := cx.tmp hL.len 0 (by kernel_rfl) 53 rfl (by decide)
  obtain ⟨r0t, r0w, rfl, r0ht, r0hw⟩ : ∃ vt vw, r0 = .agg #[vt, vw] ∧ toK.row w (Od w) vt [] ∧ fnK.row w (Od w) vw [] := r0p
  obtain ⟨r0x, r0m, rfl, -, -⟩ := Row.slice r0ht
  obtain ⟨r0y, r0n, rfl, -, -⟩ := Row.slice r0hw
  obtain ⟨r1, r1h, r1p⟩ := cx.tmp hL.len 18 (by kernel_rfl) 71 rfl (by decide)
  obtain ⟨r1t, r1w, rfl, r1ht, r1hw⟩ : ∃ vt vw, r1 = .agg #[vt, vw] ∧ toK.row w (Od w) vt [(⟨0, [], []⟩ : To), (⟨0, [ansA 1 0 []], [(1, xA)]⟩ : To), (⟨0, [], []⟩ : To), (⟨0, [ansA 2 0 []], [(2, yA)]⟩ : To)] ∧ fnK.row w (Od w) vw [] := r1p
  obtain ⟨r1x, r1m, rfl, -, -⟩ := Row.slice r1ht
  obtain ⟨r1y, r1n, rfl, -, -⟩ := Row.slice r1hw
  obtain ⟨r2, r2h, r2p⟩ := cx.tmp hL.len 38 (by kernel_rfl) 91 rfl (by decide)
  obtain ⟨r2t, r2w, rfl, r2ht, r2hw⟩ : ∃ vt vw, r2 = .agg #[vt, vw] ∧ toK.row w (Od w) vt [(⟨0, [], []⟩ : To), (⟨0, [ansA 1 0 []], [(1, xA)]⟩ : To), (⟨0, [], []⟩ : To), (⟨0, [ansA 2 0 []], [(1, yA)]⟩ : To)] ∧ fnK.row w (Od w) vw [(3, 1)] := r2p
  obtain ⟨r2x, r2m, rfl, -, -⟩ := Row.slice r2ht
  obtain ⟨r2y, r2n, rfl, -, -⟩ := Row.slice r2hw
  obtain ⟨r3, r3h, r3p⟩ := cx.tmp hL.len 58 (by kernel_rfl) 111 rfl (by decide)
  obtain ⟨r3t, r3w, rfl, r3ht, r3hw⟩ : ∃ vt vw, r3 = .agg #[vt, vw] ∧ toK.row w (Od w) vt [(⟨0, [], []⟩ : To), (⟨0, [ansA 1 0 []], [(1, xA)]⟩ : To), (⟨0, [], []⟩ : To), (⟨0, [ansA 1 2 []], [(1, xA)]⟩ : To)] ∧ fnK.row w (Od w) vw [(3, 2)] := r3p
  obtain ⟨r3x, r3m, rfl, -, -⟩ := Row.slice r3ht
  obtain ⟨r3y, r3n, rfl, -, -⟩ := Row.slice r3hw
  obtain ⟨r4, r4h, r4p⟩ := cx.tmp hL.len 76 (by kernel_rfl) 129 rfl (by decide)
  obtain ⟨r4t, r4w, rfl, r4ht, r4hw⟩ : ∃ vt vw, r4 = .agg #[vt, vw] ∧ toK.row w (Od w) vt [(⟨0, [], []⟩ : To), (⟨0, [ansA 1 0 []], [(1, xA)]⟩ : To), (⟨0, [], []⟩ : To), (⟨0, [ansA 1 3 []], [(1, xA)]⟩ : To)] ∧ fnK.row w (Od w) vw [] := r4p
  obtain ⟨r4x, r4m, rfl, -, -⟩ := Row.slice r4ht
  obtain ⟨r4y, r4n, rfl, -, -⟩ := Row.slice r4hw
  obtain ⟨r5, r5h, r5p⟩ := cx.tmp hL.len 88 (by kernel_rfl) 141 rfl (by decide)
  obtain ⟨r5t, r5w, rfl, r5ht, r5hw⟩ : ∃ vt vw, r5 = .agg #[vt, vw] ∧ toK.row w (Od w) vt [(⟨0, [], []⟩ : To), (⟨0, [ansA 2 0 []], [(1, yA)]⟩ : To)] ∧ fnK.row w (Od w) vw [(1, 3)] := r5p
  obtain ⟨r5x, r5m, rfl, -, -⟩ := Row.slice r5ht
  obtain ⟨r5y, r5n, rfl, -, -⟩ := Row.slice r5hw
  obtain ⟨r6, r6h, r6p⟩ := cx.tmp hL.len 100 (by kernel_rfl) 153 rfl (by decide)
  obtain ⟨r6t, r6w, rfl, r6ht, r6hw⟩ : ∃ vt vw, r6 = .agg #[vt, vw] ∧ toK.row w (Od w) vt [(⟨40, [], []⟩ : To), (⟨0, [ansA 1 0 []], [(1, xA)]⟩ : To)] ∧ fnK.row w (Od w) vw [(1, 3)] := r6p
  obtain ⟨r6x, r6m, rfl, -, -⟩ := Row.slice r6ht
  obtain ⟨r6y, r6n, rfl, -, -⟩ := Row.slice r6hw
  obtain ⟨r7, r7h, r7p⟩ := cx.tmp hL.len 110 (by kernel_rfl) 163 rfl (by decide)
  obtain ⟨r7t, r7w, rfl, r7ht, r7hw⟩ : ∃ vt vw, r7 = .agg #[vt, vw] ∧ toK.row w (Od w) vt [(⟨21, [], []⟩ : To), (⟨0, [ansA 1 0 []], [(1, xA)]⟩ : To)] ∧ fnK.row w (Od w) vw [] := r7p
  obtain ⟨r7x, r7m, rfl, -, -⟩ := Row.slice r7ht
  obtain ⟨r7y, r7n, rfl, -, -⟩ := Row.slice r7hw
  obtain ⟨r8, r8h, r8p⟩ := cx.tmp hL.len 128 (by kernel_rfl) 181 rfl (by decide)
  obtain ⟨r8t, r8w, rfl, r8ht, r8hw⟩ : ∃ vt vw, r8 = .agg #[vt, vw] ∧ toK.row w (Od w) vt [(⟨0, [], []⟩ : To), (⟨0, [], []⟩ : To), (⟨0, [], []⟩ : To), (⟨0, [ansA 1 0 [], ansA 2 0 []], [(1, xA), (3, yA)]⟩ : To)] ∧ fnK.row w (Od w) vw [(3, 4)] := r8p
  obtain ⟨r8x, r8m, rfl, -, -⟩ := Row.slice r8ht
  obtain ⟨r8y, r8n, rfl, -, -⟩ := Row.slice r8hw
  obtain ⟨r9, r9h, r9p⟩ := cx.tmp hL.len 140 (by kernel_rfl) 193 rfl (by decide)
  obtain ⟨r9t, r9w, rfl, r9ht, r9hw⟩ : ∃ vt vw, r9 = .agg #[vt, vw] ∧ toK.row w (Od w) vt [(⟨0, [], []⟩ : To), (⟨0, [ansA 1 2 []], [(1, xA)]⟩ : To)] ∧ fnK.row w (Od w) vw [(1, 5)] := r9p
  obtain ⟨r9x, r9m, rfl, -, -⟩ := Row.slice r9ht
  obtain ⟨r9y, r9n, rfl, -, -⟩ := Row.slice r9hw
  obtain ⟨r10, r10h, r10p⟩ := cx.tmp hL.len 150 (by kernel_rfl) 203 rfl (by decide)
  obtain ⟨r10t, r10w, rfl, r10ht, r10hw⟩ : ∃ vt vw, r10 = .agg #[vt, vw] ∧ toK.row w (Od w) vt [(⟨0, [], []⟩ : To), (⟨0, [], [(1, xA)]⟩ : To)] ∧ fnK.row w (Od w) vw [(1, 5)] := r10p
  obtain ⟨r10x, r10m, rfl, -, -⟩ := Row.slice r10ht
  obtain ⟨r10y, r10n, rfl, -, -⟩ := Row.slice r10hw
  obtain ⟨r11, r11h, r11p⟩ := cx.tmp hL.len 170 (by kernel_rfl) 223 rfl (by decide)
  obtain ⟨r11t, r11w, rfl, r11ht, r11hw⟩ : ∃ vt vw, r11 = .agg #[vt, vw] ∧ toK.row w (Od w) vt [(⟨0, [], []⟩ : To), (⟨0, [ansA 1 0 []], [(2, xA)]⟩ : To), (⟨0, [], []⟩ : To), (⟨0, [ansA 2 0 []], [(1, yA)]⟩ : To)] ∧ fnK.row w (Od w) vw [(2, 6)] := r11p
  obtain ⟨r11x, r11m, rfl, -, -⟩ := Row.slice r11ht
  obtain ⟨r11y, r11n, rfl, -, -⟩ := Row.slice r11hw
  obtain ⟨r12, r12h, r12p⟩ := cx.tmp hL.len 188 (by kernel_rfl) 241 rfl (by decide)
  obtain ⟨r12t, r12w, rfl, r12ht, r12hw⟩ : ∃ vt vw, r12 = .agg #[vt, vw] ∧ toK.row w (Od w) vt [(⟨0, [], []⟩ : To), (⟨0, [], []⟩ : To), (⟨0, [], []⟩ : To), (⟨0, [ansA 1 0 [], ansA 2 0 []], [(1, xyA)]⟩ : To), (⟨0, [], [(1, xyA)]⟩ : To)] ∧ fnK.row w (Od w) vw [] := r12p
  obtain ⟨r12x, r12m, rfl, -, -⟩ := Row.slice r12ht
  obtain ⟨r12y, r12n, rfl, -, -⟩ := Row.slice r12hw
  refine st_rows (cx.op (p := .buildSlice 52 13 #[(0, .tmp 53), (1, .tmp 71), (2, .tmp 91), (3, .tmp 111), (4, .tmp 129), (5, .tmp 141), (6, .tmp 153), (7, .tmp 163), (8, .tmp 181), (9, .tmp 193), (10, .tmp 203), (11, .tmp 223), (12, .tmp 241)]) (by kernel_rfl)) r0h r1h r2h r3h r4h r5h r6h r7h r8h r9h r10h r11h r12h ?_
  rw [cx.dst]
  exact hK _ _ (Kind.put (K := rkK) (l := rowsK) (css := [[.slice r0x 0 r0m, .slice r0y 0 r0n], [.slice r1x 4 r1m, .slice r1y 0 r1n], [.slice r2x 4 r2m, .slice r2y 1 r2n], [.slice r3x 4 r3m, .slice r3y 1 r3n], [.slice r4x 4 r4m, .slice r4y 0 r4n], [.slice r5x 2 r5m, .slice r5y 1 r5n], [.slice r6x 2 r6m, .slice r6y 1 r6n], [.slice r7x 2 r7m, .slice r7y 0 r7n], [.slice r8x 4 r8m, .slice r8y 1 r8n], [.slice r9x 2 r9m, .slice r9y 1 r9n], [.slice r10x 2 r10m, .slice r10y 1 r10n], [.slice r11x 4 r11m, .slice r11y 1 r11n], [.slice r12x 5 r12m, .slice r12y 0 r12n]]) (.cons ⟨_, _, rfl, r0ht, r0hw⟩ (.cons ⟨_, _, rfl, r1ht, r1hw⟩ (.cons ⟨_, _, rfl, r2ht, r2hw⟩ (.cons ⟨_, _, rfl, r3ht, r3hw⟩ (.cons ⟨_, _, rfl, r4ht, r4hw⟩ (.cons ⟨_, _, rfl, r5ht, r5hw⟩ (.cons ⟨_, _, rfl, r6ht, r6hw⟩ (.cons ⟨_, _, rfl, r7ht, r7hw⟩ (.cons ⟨_, _, rfl, r8ht, r8hw⟩ (.cons ⟨_, _, rfl, r9ht, r9hw⟩ (.cons ⟨_, _, rfl, r10ht, r10hw⟩ (.cons ⟨_, _, rfl, r11ht, r11hw⟩ (.cons ⟨_, _, rfl, r12ht, r12hw⟩ (.nil)))))))))))))) rfl (by decide)) ((Upd.refl [] w).alloc _)
set_option maxRecDepth 100000 in
theorem kp_190 (hL : KnL V L) (hB : KnB V w0) : StepK V L w0 190 := by
  intro o f w K Q cx hK
  obtain ⟨a, ah, ap⟩ := cx.tmp hL.len 189 (by kernel_rfl) 242 rfl (by decide)
  refine st_assign (cx.op (p := .assign (.tmp 242)) (by kernel_rfl)) ah ?_
  rw [cx.dst]
  exact hK _ w ap (Upd.refl [] w)
theorem ka_0 : ∀ i, i < 0 → StepK V L w0 i := fun i hi => absurd hi (Nat.not_lt_zero i)
theorem ka_1 (hL : KnL V L) (hB : KnB V w0) : ∀ i, i < 1 → StepK V L w0 i := all_succ (ka_0) (kp_0 hL hB)
theorem ka_2 (hL : KnL V L) (hB : KnB V w0) : ∀ i, i < 2 → StepK V L w0 i := all_succ (ka_1 hL hB) (kp_1 hL hB)
theorem ka_3 (hL : KnL V L) (hB : KnB V w0) : ∀ i, i < 3 → StepK V L w0 i := all_succ (ka_2 hL hB) (kp_2 hL hB)
theorem ka_4 (hL : KnL V L) (hB : KnB V w0) : ∀ i, i < 4 → StepK V L w0 i := all_succ (ka_3 hL hB) (kp_3 hL hB)
theorem ka_5 (hL : KnL V L) (hB : KnB V w0) : ∀ i, i < 5 → StepK V L w0 i := all_succ (ka_4 hL hB) (kp_4 hL hB)
theorem ka_6 (hL : KnL V L) (hB : KnB V w0) : ∀ i, i < 6 → StepK V L w0 i := all_succ (ka_5 hL hB) (kp_5 hL hB)
theorem ka_7 (hL : KnL V L) (hB : KnB V w0) : ∀ i, i < 7 → StepK V L w0 i := all_succ (ka_6 hL hB) (kp_6 hL hB)
theorem ka_8 (hL : KnL V L) (hB : KnB V w0) : ∀ i, i < 8 → StepK V L w0 i := all_succ (ka_7 hL hB) (kp_7 hL hB)
theorem ka_9 (hL : KnL V L) (hB : KnB V w0) : ∀ i, i < 9 → StepK V L w0 i := all_succ (ka_8 hL hB) (kp_8 hL hB)
theorem ka_10 (hL : KnL V L) (hB : KnB V w0) : ∀ i, i < 10 → StepK V L w0 i := all_succ (ka_9 hL hB) (kp_9 hL hB)
theorem ka_11 (hL : KnL V L) (hB : KnB V w0) : ∀ i, i < 11 → StepK V L w0 i := all_succ (ka_10 hL hB) (kp_10 hL hB)
theorem ka_12 (hL : KnL V L) (hB : KnB V w0) : ∀ i, i < 12 → StepK V L w0 i := all_succ (ka_11 hL hB) (kp_11 hL hB)
theorem ka_13 (hL : KnL V L) (hB : KnB V w0) : ∀ i, i < 13 → StepK V L w0 i := all_succ (ka_12 hL hB) (kp_12 hL hB)
theorem ka_14 (hL : KnL V L) (hB : KnB V w0) : ∀ i, i < 14 → StepK V L w0 i := all_succ (ka_13 hL hB) (kp_13 hL hB)
theorem ka_15 (hL : KnL V L) (hB : KnB V w0) : ∀ i, i < 15 → StepK V L w0 i := all_succ (ka_14 hL hB) (kp_14 hL hB)
theorem ka_16 (hL : KnL V L) (hB : KnB V w0) : ∀ i, i < 16 → StepK V L w0 i := all_succ (ka_15 hL hB) (kp_15 hL hB)
theorem ka_17 (hL : KnL V L) (hB : KnB V w0) : ∀ i, i < 17 → StepK V L w0 i := all_succ (ka_16 hL hB) (kp_16 hL hB)
theorem ka_18 (hL : KnL V L) (hB : KnB V w0) : ∀ i, i < 18 → StepK V L w0 i := all_succ (ka_17 hL hB) (kp_17 hL hB)
theorem ka_19 (hL : KnL V L) (hB : KnB V w0) : ∀ i, i < 19 → StepK V L w0 i := all_succ (ka_18 hL hB) (kp_18 hL hB)
theorem ka_20 (hL : KnL V L) (hB : KnB V w0) : ∀ i, i < 20 → StepK V L w0 i := all_succ (ka_19 hL hB) (kp_19 hL hB)
theorem ka_21 (hL : KnL V L) (hB : KnB V w0) : ∀ i, i < 21 → StepK V L w0 i := all_succ (ka_20 hL hB) (kp_20 hL hB)
theorem ka_22 (hL : KnL V L) (hB : KnB V w0) : ∀ i, i < 22 → StepK V L w0 i := all_succ (ka_21 hL hB) (kp_21 hL hB)
theorem ka_23 (hL : KnL V L) (hB : KnB V w0) : ∀ i, i < 23 → StepK V L w0 i := all_succ (ka_22 hL hB) (kp_22 hL hB)
theorem ka_24 (hL : KnL V L) (hB : KnB V w0) : ∀ i, i < 24 → StepK V L w0 i := all_succ (ka_23 hL hB) (kp_23 hL hB)
theorem ka_25 (hL : KnL V L) (hB : KnB V w0) : ∀ i, i < 25 → StepK V L w0 i := all_succ (ka_24 hL hB) (kp_24 hL hB)
theorem ka_26 (hL : KnL V L) (hB : KnB V w0) : ∀ i, i < 26 → StepK V L w0 i := all_succ (ka_25 hL hB) (kp_25 hL hB)
theorem ka_27 (hL : KnL V L) (hB : KnB V w0) : ∀ i, i < 27 → StepK V L w0 i := all_succ (ka_26 hL hB) (kp_26 hL hB)
theorem ka_28 (hL : KnL V L) (hB : KnB V w0) : ∀ i, i < 28 → StepK V L w0 i := all_succ (ka_27 hL hB) (kp_27 hL hB)
theorem ka_29 (hL : KnL V L) (hB : KnB V w0) : ∀ i, i < 29 → StepK V L w0 i := all_succ (ka_28 hL hB) (kp_28 hL hB)
theorem ka_30 (hL : KnL V L) (hB : KnB V w0) : ∀ i, i < 30 → StepK V L w0 i := all_succ (ka_29 hL hB) (kp_29 hL hB)
theorem ka_31 (hL : KnL V L) (hB : KnB V w0) : ∀ i, i < 31 → StepK V L w0 i := all_succ (ka_30 hL hB) (kp_30 hL hB)
theorem ka_32 (hL : KnL V L) (hB : KnB V w0) : ∀ i, i < 32 → StepK V L w0 i := all_succ (ka_31 hL hB) (kp_31 hL hB)
theorem ka_33 (hL : KnL V L) (hB : KnB V w0) : ∀ i, i < 33 → StepK V L w0 i := all_succ (ka_32 hL hB) (kp_32 hL hB)
theorem ka_34 (hL : KnL V L) (hB : KnB V w0) : ∀ i, i < 34 → StepK V L w0 i := all_succ (ka_33 hL hB) (kp_33 hL hB)
theorem ka_35 (hL : KnL V L) (hB : KnB V w0) : ∀ i, i < 35 → StepK V L w0 i := all_succ (ka_34 hL hB) (kp_34 hL hB)
theorem ka_36 (hL : KnL V L) (hB : KnB V w0) : ∀ i, i < 36 → StepK V L w0 i := all_succ (ka_35 hL hB) (kp_35 hL hB)
theorem ka_37 (hL : KnL V L) (hB : KnB V w0) : ∀ i, i < 37 → StepK V L w0 i := all_succ (ka_36 hL hB) (kp_36 hL hB)
theorem ka_38 (hL : KnL V L) (hB : KnB V w0) : ∀ i, i < 38 → StepK V L w0 i := all_succ (ka_37 hL hB) (kp_37 hL hB)
theorem ka_39 (hL : KnL V L) (hB : KnB V w0) : ∀ i, i < 39 → StepK V L w0 i := all_succ (ka_38 hL hB) (kp_38 hL hB)
theorem ka_40 (hL : KnL V L) (hB : KnB V w0) : ∀ i, i < 40 → StepK V L w0 i := all_succ (ka_39 hL hB) (kp_39 hL hB)
theorem ka_41 (hL : KnL V L) (hB : KnB V w0) : ∀ i, i < 41 → StepK V L w0 i := all_succ (ka_40 hL hB) (kp_40 hL hB)
theorem ka_42 (hL : KnL V L) (hB : KnB V w0) : ∀ i, i < 42 → StepK V L w0 i := all_succ (ka_41 hL hB) (kp_41 hL hB)
theorem ka_43 (hL : KnL V L) (hB : KnB V w0) : ∀ i, i < 43 → StepK V L w0 i := all_succ (ka_42 hL hB) (kp_42 hL hB)
theorem ka_44 (hL : KnL V L) (hB : KnB V w0) : ∀ i, i < 44 → StepK V L w0 i := all_succ (ka_43 hL hB) (kp_43 hL hB)
theorem ka_45 (hL : KnL V L) (hB : KnB V w0) : ∀ i, i < 45 → StepK V L w0 i := all_succ (ka_44 hL hB) (kp_44 hL hB)
theorem ka_46 (hL : KnL V L) (hB : KnB V w0) : ∀ i, i < 46 → StepK V L w0 i := all_succ (ka_45 hL hB) (kp_45 hL hB)
theorem ka_47 (hL : KnL V L) (hB : KnB V w0) : ∀ i, i < 47 → StepK V L w0 i := all_succ (ka_46 hL hB) (kp_46 hL hB)
theorem ka_48 (hL : KnL V L) (hB : KnB V w0) : ∀ i, i < 48 → StepK V L w0 i := all_succ (ka_47 hL hB) (kp_47 hL hB)
theorem ka_49 (hL : KnL V L) (hB : KnB V w0) : ∀ i, i < 49 → StepK V L w0 i := all_succ (ka_48 hL hB) (kp_48 hL hB)
theorem ka_50 (hL : KnL V L) (hB : KnB V w0) : ∀ i, i < 50 → StepK V L w0 i := all_succ (ka_49 hL hB) (kp_49 hL hB)
theorem ka_51 (hL : KnL V L) (hB : KnB V w0) : ∀ i, i < 51 → StepK V L w0 i := all_succ (ka_50 hL hB) (kp_50 hL hB)
theorem ka_52 (hL : KnL V L) (hB : KnB V w0) : ∀ i, i < 52 → StepK V L w0 i := all_succ (ka_51 hL hB) (kp_51 hL hB)
theorem ka_53 (hL : KnL V L) (hB : KnB V w0) : ∀ i, i < 53 → StepK V L w0 i := all_succ (ka_52 hL hB) (kp_52 hL hB)
theorem ka_54 (hL : KnL V L) (hB : KnB V w0) : ∀ i, i < 54 → StepK V L w0 i := all_succ (ka_53 hL hB) (kp_53 hL hB)
theorem ka_55 (hL : KnL V L) (hB : KnB V w0) : ∀ i, i < 55 → StepK V L w0 i := all_succ (ka_54 hL hB) (kp_54 hL hB)
theorem ka_56 (hL : KnL V L) (hB : KnB V w0) : ∀ i, i < 56 → StepK V L w0 i := all_succ (ka_55 hL hB) (kp_55 hL hB)
theorem ka_57 (hL : KnL V L) (hB : KnB V w0) : ∀ i, i < 57 → StepK V L w0 i := all_succ (ka_56 hL hB) (kp_56 hL hB)
theorem ka_58 (hL : KnL V L) (hB : KnB V w0) : ∀ i, i < 58 → StepK V L w0 i := all_succ (ka_57 hL hB) (kp_57 hL hB)
theorem ka_59 (hL : KnL V L) (hB : KnB V w0) : ∀ i, i < 59 → StepK V L w0 i := all_succ (ka_58 hL hB) (kp_58 hL hB)
theorem ka_60 (hL : KnL V L) (hB : KnB V w0) : ∀ i, i < 60 → StepK V L w0 i := all_succ (ka_59 hL hB) (kp_59 hL hB)
theorem ka_61 (hL : KnL V L) (hB : KnB V w0) : ∀ i, i < 61 → StepK V L w0 i := all_succ (ka_60 hL hB) (kp_60 hL hB)
theorem ka_62 (hL : KnL V L) (hB : KnB V w0) : ∀ i, i < 62 → StepK V L w0 i := all_succ (ka_61 hL hB) (kp_61 hL hB)
theorem ka_63 (hL : KnL V L) (hB : KnB V w0) : ∀ i, i < 63 → StepK V L w0 i := all_succ (ka_62 hL hB) (kp_62 hL hB)
theorem ka_64 (hL : KnL V L) (hB : KnB V w0) : ∀ i, i < 64 → StepK V L w0 i := all_succ (ka_63 hL hB) (kp_63 hL hB)
theorem ka_65 (hL : KnL V L) (hB : KnB V w0) : ∀ i, i < 65 → StepK V L w0 i := all_succ (ka_64 hL hB) (kp_64 hL hB)
theorem ka_66 (hL : KnL V L) (hB : KnB V w0) : ∀ i, i < 66 → StepK V L w0 i := all_succ (ka_65 hL hB) (kp_65 hL hB)
theorem ka_67 (hL : KnL V L) (hB : KnB V w0) : ∀ i, i < 67 → StepK V L w0 i := all_succ (ka_66 hL hB) (kp_66 hL hB)
theorem ka_68 (hL : KnL V L) (hB : KnB V w0) : ∀ i, i < 68 → StepK V L w0 i := all_succ (ka_67 hL hB) (kp_67 hL hB)
theorem ka_69 (hL : KnL V L) (hB : KnB V w0) : ∀ i, i < 69 → StepK V L w0 i := all_succ (ka_68 hL hB) (kp_68 hL hB)
theorem ka_70 (hL : KnL V L) (hB : KnB V w0) : ∀ i, i < 70 → StepK V L w0 i := all_succ (ka_69 hL hB) (kp_69 hL hB)
theorem ka_71 (hL : KnL V L) (hB : KnB V w0) : ∀ i, i < 71 → StepK V L w0 i := all_succ (ka_70 hL hB) (kp_70 hL hB)
theorem ka_72 (hL : KnL V L) (hB : KnB V w0) : ∀ i, i < 72 → StepK V L w0 i := all_succ (ka_71 hL hB) (kp_71 hL hB)
theorem ka_73 (hL : KnL V L) (hB : KnB V w0) : ∀ i, i < 73 → StepK V L w0 i := all_succ (ka_72 hL hB) (kp_72 hL hB)
theorem ka_74 (hL : KnL V L) (hB : KnB V w0) : ∀ i, i < 74 → StepK V L w0 i := all_succ (ka_73 hL hB) (kp_73 hL hB)
theorem ka_75 (hL : KnL V L) (hB : KnB V w0) : ∀ i, i < 75 → StepK V L w0 i := all_succ (ka_74 hL hB) (kp_74 hL hB)
theorem ka_76 (hL : KnL V L) (hB : KnB V w0) : ∀ i, i < 76 → StepK V L w0 i := all_succ (ka_75 hL hB) (kp_75 hL hB)
theorem ka_77 (hL : KnL V L) (hB : KnB V w0) : ∀ i, i < 77 → StepK V L w0 i := all_succ (ka_76 hL hB) (kp_76 hL hB)
theorem ka_78 (hL : KnL V L) (hB : KnB V w0) : ∀ i, i < 78 → StepK V L w0 i := all_succ (ka_77 hL hB) (kp_77 hL hB)
theorem ka_79 (hL : KnL V L) (hB : KnB V w0) : ∀ i, i < 79 → StepK V L w0 i := all_succ (ka_78 hL hB) (kp_78 hL hB)
theorem ka_80 (hL : KnL V L) (hB : KnB V w0) : ∀ i, i < 80 → StepK V L w0 i := all_succ (ka_79 hL hB) (kp_79 hL hB)
theorem ka_81 (hL : KnL V L) (hB : KnB V w0) : ∀ i, i < 81 → StepK V L w0 i := all_succ (ka_80 hL hB) (kp_80 hL hB)
theorem ka_82 (hL : KnL V L) (hB : KnB V w0) : ∀ i, i < 82 → StepK V L w0 i := all_succ (ka_81 hL hB) (kp_81 hL hB)
theorem ka_83 (hL : KnL V L) (hB : KnB V w0) : ∀ i, i < 83 → StepK V L w0 i := all_succ (ka_82 hL hB) (kp_82 hL hB)
theorem ka_84 (hL : KnL V L) (hB : KnB V w0) : ∀ i, i < 84 → StepK V L w0 i := all_succ (ka_83 hL hB) (kp_83 hL hB)
theorem ka_85 (hL : KnL V L) (hB : KnB V w0) : ∀ i, i < 85 → StepK V L w0 i := all_succ (ka_84 hL hB) (kp_84 hL hB)
theorem ka_86 (hL : KnL V L) (hB : KnB V w0) : ∀ i, i < 86 → StepK V L w0 i := all_succ (ka_85 hL hB) (kp_85 hL hB)
theorem ka_87 (hL : KnL V L) (hB : KnB V w0) : ∀ i, i < 87 → StepK V L w0 i := all_succ (ka_86 hL hB) (kp_86 hL hB)
theorem ka_88 (hL : KnL V L) (hB : KnB V w0) : ∀ i, i < 88 → StepK V L w0 i := all_succ (ka_87 hL hB) (kp_87 hL hB)
theorem ka_89 (hL : KnL V L) (hB : KnB V w0) : ∀ i, i < 89 → StepK V L w0 i := all_succ (ka_88 hL hB) (kp_88 hL hB)
theorem ka_90 (hL : KnL V L) (hB : KnB V w0) : ∀ i, i < 90 → StepK V L w0 i := all_succ (ka_89 hL hB) (kp_89 hL hB)
theorem ka_91 (hL : KnL V L) (hB : KnB V w0) : ∀ i, i < 91 → StepK V L w0 i := all_succ (ka_90 hL hB) (kp_90 hL hB)
theorem ka_92 (hL : KnL V L) (hB : KnB V w0) : ∀ i, i < 92 → StepK V L w0 i := all_succ (ka_91 hL hB) (kp_91 hL hB)
theorem ka_93 (hL : KnL V L) (hB : KnB V w0) : ∀ i, i < 93 → StepK V L w0 i := all_succ (ka_92 hL hB) (kp_92 hL hB)
theorem ka_94 (hL : KnL V L) (hB : KnB V w0) : ∀ i, i < 94 → StepK V L w0 i := all_succ (ka_93 hL hB) (kp_93 hL hB)
theorem ka_95 (hL : KnL V L) (hB : KnB V w0) : ∀ i, i < 95 → StepK V L w0 i := all_succ (ka_94 hL hB) (kp_94 hL hB)
theorem ka_96 (hL : KnL V L) (hB : KnB V w0) : ∀ i, i < 96 → StepK V L w0 i := all_succ (ka_95 hL hB) (kp_95 hL hB)
theorem ka_97 (hL : KnL V L) (hB : KnB V w0) : ∀ i, i < 97 → StepK V L w0 i := all_succ (ka_96 hL hB) (kp_96 hL hB)
theorem ka_98 (hL : KnL V L) (hB : KnB V w0) : ∀ i, i < 98 → StepK V L w0 i := all_succ (ka_97 hL hB) (kp_97 hL hB)
theorem ka_99 (hL : KnL V L) (hB : KnB V w0) : ∀ i, i < 99 → StepK V L w0 i := all_succ (ka_98 hL hB) (kp_98 hL hB)
theorem ka_100 (hL : KnL V L) (hB : KnB V w0) : ∀ i, i < 100 → StepK V L w0 i := all_succ (ka_99 hL hB) (kp_99 hL hB)
theorem ka_101 (hL : KnL V L) (hB : KnB V w0) : ∀ i, i < 101 → StepK V L w0 i := all_succ (ka_100 hL hB) (kp_100 hL hB)
theorem ka_102 (hL : KnL V L) (hB : KnB V w0) : ∀ i, i < 102 → StepK V L w0 i := all_succ (ka_101 hL hB) (kp_101 hL hB)
theorem ka_103 (hL : KnL V L) (hB : KnB V w0) : ∀ i, i < 103 → StepK V L w0 i := all_succ (ka_102 hL hB) (kp_102 hL hB)
theorem ka_104 (hL : KnL V L) (hB : KnB V w0) : ∀ i, i < 104 → StepK V L w0 i := all_succ (ka_103 hL hB) (kp_103 hL hB)
theorem ka_105 (hL : KnL V L) (hB : KnB V w0) : ∀ i, i < 105 → StepK V L w0 i := all_succ (ka_104 hL hB) (kp_104 hL hB)
theorem ka_106 (hL : KnL V L) (hB : KnB V w0) : ∀ i, i < 106 → StepK V L w0 i := all_succ (ka_105 hL hB) (kp_105 hL hB)
theorem ka_107 (hL : KnL V L) (hB : KnB V w0) : ∀ i, i < 107 → StepK V L w0 i := all_succ (ka_106 hL hB) (kp_106 hL hB)
theorem ka_108 (hL : KnL V L) (hB : KnB V w0) : ∀ i, i < 108 → StepK V L w0 i := all_succ (ka_107 hL hB) (kp_107 hL hB)
theorem ka_109 (hL : KnL V L) (hB : KnB V w0) : ∀ i, i < 109 → StepK V L w0 i := all_succ (ka_108 hL hB) (kp_108 hL hB)
theorem ka_110 (hL : KnL V L) (hB : KnB V w0) : ∀ i, i < 110 → StepK V L w0 i := all_succ (ka_109 hL hB) (kp_109 hL hB)
theorem ka_111 (hL : KnL V L) (hB : KnB V w0) : ∀ i, i < 111 → StepK V L w0 i := all_succ (ka_110 hL hB) (kp_110 hL hB)
theorem ka_112 (hL : KnL V L) (hB : KnB V w0) : ∀ i, i < 112 → StepK V L w0 i := all_succ (ka_111 hL hB) (kp_111 hL hB)
theorem ka_113 (hL : KnL V L) (hB : KnB V w0) : ∀ i, i < 113 → StepK V L w0 i := all_succ (ka_112 hL hB) (kp_112 hL hB)
theorem ka_114 (hL : KnL V L) (hB : KnB V w0) : ∀ i, i < 114 → StepK V L w0 i := all_succ (ka_113 hL hB) (kp_113 hL hB)
theorem ka_115 (hL : KnL V L) (hB : KnB V w0) : ∀ i, i < 115 → StepK V L w0 i := all_succ (ka_114 hL hB) (kp_114 hL hB)
theorem ka_116 (hL : KnL V L) (hB : KnB V w0) : ∀ i, i < 116 → StepK V L w0 i := all_succ (ka_115 hL hB) (kp_115 hL hB)
theorem ka_117 (hL : KnL V L) (hB : KnB V w0) : ∀ i, i < 117 → StepK V L w0 i := all_succ (ka_116 hL hB) (kp_116 hL hB)
theorem ka_118 (hL : KnL V L) (hB : KnB V w0) : ∀ i, i < 118 → StepK V L w0 i := all_succ (ka_117 hL hB) (kp_117 hL hB)
theorem ka_119 (hL : KnL V L) (hB : KnB V w0) : ∀ i, i < 119 → StepK V L w0 i := all_succ (ka_118 hL hB) (kp_118 hL hB)
theorem ka_120 (hL : KnL V L) (hB : KnB V w0) : ∀ i, i < 120 → StepK V L w0 i := all_succ (ka_119 hL hB) (kp_119 hL hB)
theorem ka_121 (hL : KnL V L) (hB : KnB V w0) : ∀ i, i < 121 → StepK V L w0 i := all_succ (ka_120 hL hB) (kp_120 hL hB)
theorem ka_122 (hL : KnL V L) (hB : KnB V w0) : ∀ i, i < 122 → StepK V L w0 i := all_succ (ka_121 hL hB) (kp_121 hL hB)
theorem ka_123 (hL : KnL V L) (hB : KnB V w0) : ∀ i, i < 123 → StepK V L w0 i := all_succ (ka_122 hL hB) (kp_122 hL hB)
theorem ka_124 (hL : KnL V L) (hB : KnB V w0) : ∀ i, i < 124 → StepK V L w0 i := all_succ (ka_123 hL hB) (kp_123 hL hB)
theorem ka_125 (hL : KnL V L) (hB : KnB V w0) : ∀ i, i < 125 → StepK V L w0 i := all_succ (ka_124 hL hB) (kp_124 hL hB)
theorem ka_126 (hL : KnL V L) (hB : KnB V w0) : ∀ i, i < 126 → StepK V L w0 i := all_succ (ka_125 hL hB) (kp_125 hL hB)
theorem ka_127 (hL : KnL V L) (hB : KnB V w0) : ∀ i, i < 127 → StepK V L w0 i := all_succ (ka_126 hL hB) (kp_126 hL hB)
theorem ka_128 (hL : KnL V L) (hB : KnB V w0) : ∀ i, i < 128 → StepK V L w0 i := all_succ (ka_127 hL hB) (kp_127 hL hB)
theorem ka_129 (hL : KnL V L) (hB : KnB V w0) : ∀ i, i < 129 → StepK V L w0 i := all_succ (ka_128 hL hB) (kp_128 hL hB)
theorem ka_130 (hL : KnL V L) (hB : KnB V w0) : ∀ i, i < 130 → StepK V L w0 i := all_succ (ka_129 hL hB) (kp_129 hL hB)
theorem ka_131 (hL : KnL V L) (hB : KnB V w0) : ∀ i, i < 131 → StepK V L w0 i := all_succ (ka_130 hL hB) (kp_130 hL hB)
theorem ka_132 (hL : KnL V L) (hB : KnB V w0) : ∀ i, i < 132 → StepK V L w0 i := all_succ (ka_131 hL hB) (kp_131 hL hB)
theorem ka_133 (hL : KnL V L) (hB : KnB V w0) : ∀ i, i < 133 → StepK V L w0 i := all_succ (ka_132 hL hB) (kp_132 hL hB)
theorem ka_134 (hL : KnL V L) (hB : KnB V w0) : ∀ i, i < 134 → StepK V L w0 i := all_succ (ka_133 hL hB) (kp_133 hL hB)
theorem ka_135 (hL : KnL V L) (hB : KnB V w0) : ∀ i, i < 135 → StepK V L w0 i := all_succ (ka_134 hL hB) (kp_134 hL hB)
theorem ka_136 (hL : KnL V L) (hB : KnB V w0) : ∀ i, i < 136 → StepK V L w0 i := all_succ (ka_135 hL hB) (kp_135 hL hB)
theorem ka_137 (hL : KnL V L) (hB : KnB V w0) : ∀ i, i < 137 → StepK V L w0 i := all_succ (ka_136 hL hB) (kp_136 hL hB)
theorem ka_138 (hL : KnL V L) (hB : KnB V w0) : ∀ i, i < 138 → StepK V L w0 i := all_succ (ka_137 hL hB) (kp_137 hL hB)
theorem ka_139 (hL : KnL V L) (hB : KnB V w0) : ∀ i, i < 139 → StepK V L w0 i := all_succ (ka_138 hL hB) (kp_138 hL hB)
theorem ka_140 (hL : KnL V L) (hB : KnB V w0) : ∀ i, i < 140 → StepK V L w0 i := all_succ (ka_139 hL hB) (kp_139 hL hB)
theorem ka_141 (hL : KnL V L) (hB : KnB V w0) : ∀ i, i < 141 → StepK V L w0 i := all_succ (ka_140 hL hB) (kp_140 hL hB)
theorem ka_142 (hL : KnL V L) (hB : KnB V w0) : ∀ i, i < 142 → StepK V L w0 i := all_succ (ka_141 hL hB) (kp_141 hL hB)
theorem ka_143 (hL : KnL V L) (hB : KnB V w0) : ∀ i, i < 143 → StepK V L w0 i := all_succ (ka_142 hL hB) (kp_142 hL hB)
theorem ka_144 (hL : KnL V L) (hB : KnB V w0) : ∀ i, i < 144 → StepK V L w0 i := all_succ (ka_143 hL hB) (kp_143 hL hB)
theorem ka_145 (hL : KnL V L) (hB : KnB V w0) : ∀ i, i < 145 → StepK V L w0 i := all_succ (ka_144 hL hB) (kp_144 hL hB)
theorem ka_146 (hL : KnL V L) (hB : KnB V w0) : ∀ i, i < 146 → StepK V L w0 i := all_succ (ka_145 hL hB) (kp_145 hL hB)
theorem ka_147 (hL : KnL V L) (hB : KnB V w0) : ∀ i, i < 147 → StepK V L w0 i := all_succ (ka_146 hL hB) (kp_146 hL hB)
theorem ka_148 (hL : KnL V L) (hB : KnB V w0) : ∀ i, i < 148 → StepK V L w0 i := all_succ (ka_147 hL hB) (kp_147 hL hB)
theorem ka_149 (hL : KnL V L) (hB : KnB V w0) : ∀ i, i < 149 → StepK V L w0 i := all_succ (ka_148 hL hB) (kp_148 hL hB)
theorem ka_150 (hL : KnL V L) (hB : KnB V w0) : ∀ i, i < 150 → StepK V L w0 i := all_succ (ka_149 hL hB) (kp_149 hL hB)
theorem ka_151 (hL : KnL V L) (hB : KnB V w0) : ∀ i, i < 151 → StepK V L w0 i := all_succ (ka_150 hL hB) (kp_150 hL hB)
theorem ka_152 (hL : KnL V L) (hB : KnB V w0) : ∀ i, i < 152 → StepK V L w0 i := all_succ (ka_151 hL hB) (kp_151 hL hB)
theorem ka_153 (hL : KnL V L) (hB : KnB V w0) : ∀ i, i < 153 → StepK V L w0 i := all_succ (ka_152 hL hB) (kp_152 hL hB)
theorem ka_154 (hL : KnL V L) (hB : KnB V w0) : ∀ i, i < 154 → StepK V L w0 i := all_succ (ka_153 hL hB) (kp_153 hL hB)
theorem ka_155 (hL : KnL V L) (hB : KnB V w0) : ∀ i, i < 155 → StepK V L w0 i := all_succ (ka_154 hL hB) (kp_154 hL hB)
theorem ka_156 (hL : KnL V L) (hB : KnB V w0) : ∀ i, i < 156 → StepK V L w0 i := all_succ (ka_155 hL hB) (kp_155 hL hB)
theorem ka_157 (hL : KnL V L) (hB : KnB V w0) : ∀ i, i < 157 → StepK V L w0 i := all_succ (ka_156 hL hB) (kp_156 hL hB)
theorem ka_158 (hL : KnL V L) (hB : KnB V w0) : ∀ i, i < 158 → StepK V L w0 i := all_succ (ka_157 hL hB) (kp_157 hL hB)
theorem ka_159 (hL : KnL V L) (hB : KnB V w0) : ∀ i, i < 159 → StepK V L w0 i := all_succ (ka_158 hL hB) (kp_158 hL hB)
theorem ka_160 (hL : KnL V L) (hB : KnB V w0) : ∀ i, i < 160 → StepK V L w0 i := all_succ (ka_159 hL hB) (kp_159 hL hB)
theorem ka_161 (hL : KnL V L) (hB : KnB V w0) : ∀ i, i < 161 → StepK V L w0 i := all_succ (ka_160 hL hB) (kp_160 hL hB)
theorem ka_162 (hL : KnL V L) (hB : KnB V w0) : ∀ i, i < 162 → StepK V L w0 i := all_succ (ka_161 hL hB) (kp_161 hL hB)
theorem ka_163 (hL : KnL V L) (hB : KnB V w0) : ∀ i, i < 163 → StepK V L w0 i := all_succ (ka_162 hL hB) (kp_162 hL hB)
theorem ka_164 (hL : KnL V L) (hB : KnB V w0) : ∀ i, i < 164 → StepK V L w0 i := all_succ (ka_163 hL hB) (kp_163 hL hB)
theorem ka_165 (hL : KnL V L) (hB : KnB V w0) : ∀ i, i < 165 → StepK V L w0 i := all_succ (ka_164 hL hB) (kp_164 hL hB)
theorem ka_166 (hL : KnL V L) (hB : KnB V w0) : ∀ i, i < 166 → StepK V L w0 i := all_succ (ka_165 hL hB) (kp_165 hL hB)
theorem ka_167 (hL : KnL V L) (hB : KnB V w0) : ∀ i, i < 167 → StepK V L w0 i := all_succ (ka_166 hL hB) (kp_166 hL hB)
theorem ka_168 (hL : KnL V L) (hB : KnB V w0) : ∀ i, i < 168 → StepK V L w0 i := all_succ (ka_167 hL hB) (kp_167 hL hB)
theorem ka_169 (hL : KnL V L) (hB : KnB V w0) : ∀ i, i < 169 → StepK V L w0 i := all_succ (ka_168 hL hB) (kp_168 hL hB)
theorem ka_170 (hL : KnL V L) (hB : KnB V w0) : ∀ i, i < 170 → StepK V L w0 i := all_succ (ka_169 hL hB) (kp_169 hL hB)
theorem ka_171 (hL : KnL V L) (hB : KnB V w0) : ∀ i, i < 171 → StepK V L w0 i := all_succ (ka_170 hL hB) (kp_170 hL hB)
theorem ka_172 (hL : KnL V L) (hB : KnB V w0) : ∀ i, i < 172 → StepK V L w0 i := all_succ (ka_171 hL hB) (kp_171 hL hB)
theorem ka_173 (hL : KnL V L) (hB : KnB V w0) : ∀ i, i < 173 → StepK V L w0 i := all_succ (ka_172 hL hB) (kp_172 hL hB)
theorem ka_174 (hL : KnL V L) (hB : KnB V w0) : ∀ i, i < 174 → StepK V L w0 i := all_succ (ka_173 hL hB) (kp_173 hL hB)
theorem ka_175 (hL : KnL V L) (hB : KnB V w0) : ∀ i, i < 175 → StepK V L w0 i := all_succ (ka_174 hL hB) (kp_174 hL hB)
theorem ka_176 (hL : KnL V L) (hB : KnB V w0) : ∀ i, i < 176 → StepK V L w0 i := all_succ (ka_175 hL hB) (kp_175 hL hB)
theorem ka_177 (hL : KnL V L) (hB : KnB V w0) : ∀ i, i < 177 → StepK V L w0 i := all_succ (ka_176 hL hB) (kp_176 hL hB)
theorem ka_178 (hL : KnL V L) (hB : KnB V w0) : ∀ i, i < 178 → StepK V L w0 i := all_succ (ka_177 hL hB) (kp_177 hL hB)
theorem ka_179 (hL : KnL V L) (hB : KnB V w0) : ∀ i, i < 179 → StepK V L w0 i := all_succ (ka_178 hL hB) (kp_178 hL hB)
theorem ka_180 (hL : KnL V L) (hB : KnB V w0) : ∀ i, i < 180 → StepK V L w0 i := all_succ (ka_179 hL hB) (kp_179 hL hB)
theorem ka_181 (hL : KnL V L) (hB : KnB V w0) : ∀ i, i < 181 → StepK V L w0 i := all_succ (ka_180 hL hB) (kp_180 hL hB)
theorem ka_182 (hL : KnL V L) (hB : KnB V w0) : ∀ i, i < 182 → StepK V L w0 i := all_succ (ka_181 hL hB) (kp_181 hL hB)
theorem ka_183 (hL : KnL V L) (hB : KnB V w0) : ∀ i, i < 183 → StepK V L w0 i := all_succ (ka_182 hL hB) (kp_182 hL hB)
theorem ka_184 (hL : KnL V L) (hB : KnB V w0) : ∀ i, i < 184 → StepK V L w0 i := all_succ (ka_183 hL hB) (kp_183 hL hB)
theorem ka_185 (hL : KnL V L) (hB : KnB V w0) : ∀ i, i < 185 → StepK V L w0 i := all_succ (ka_184 hL hB) (kp_184 hL hB)
theorem ka_186 (hL : KnL V L) (hB : KnB V w0) : ∀ i, i < 186 → StepK V L w0 i := all_succ (ka_185 hL hB) (kp_185 hL hB)
theorem ka_187 (hL : KnL V L) (hB : KnB V w0) : ∀ i, i < 187 → StepK V L w0 i := all_succ (ka_186 hL hB) (kp_186 hL hB)
theorem ka_188 (hL : KnL V L) (hB : KnB V w0) : ∀ i, i < 188 → StepK V L w0 i := all_succ (ka_187 hL hB) (kp_187 hL hB)
theorem ka_189 (hL : KnL V L) (hB : KnB V w0) : ∀ i, i < 189 → StepK V L w0 i := all_succ (ka_188 hL hB) (kp_188 hL hB)
theorem ka_190 (hL : KnL V L) (hB : KnB V w0) : ∀ i, i < 190 → StepK V L w0 i := all_succ (ka_189 hL hB) (kp_189 hL hB)
theorem ka_191 (hL : KnL V L) (hB : KnB V w0) : ∀ i, i < 191 → StepK V L w0 i := all_succ (ka_190 hL hB) (kp_190 hL hB)
/-- The region as a whole. -/
theorem kn_free {Q : Exit → Act → World → Prop} (hL : KnL V L) (hB : KnB V w0) (hpost : ∀ f w, Upd [] w0 w → (∃ v, f 15 = some v ∧ rkK.row w (Od w) v rowsK) → (∀ s, (decide (53 ≤ s) && decide (s ≤ 242) || decide (s = 15)) = false → f s = none) → Q .normal (actF L [] f) w) : Free Tryz.prog knOps Q L [] w0 kdst (kPr V) where
  mono i v w w' h hu := Pc.mono h hu
  dsts i o ho := by
    have hall : (knOps.toList.zipIdx.all fun x => (x.1.dst == some (kdst x.2)) && x.1.guard.isNone && x.1.after.all fun e => Nat.blt e.on x.2) = true := by kernel_rfl
    rw [List.all_eq_true] at hall
    have hm : (o, i) ∈ knOps.toList.zipIdx := by
      rw [List.mem_zipIdx_iff_getElem?]
      simpa using ho
    have h := hall _ hm
    simp only [Bool.and_eq_true, beq_iff_eq, Option.isNone_iff_eq_none] at h
    refine ⟨h.1.1, h.1.2, fun e he => ?_⟩
    have h5 := Array.all_eq_true_iff_forall_mem.1 h.2 e he
    exact Nat.le_of_ble_eq_true h5
  inj i j hi hj h := by
    rw [knOps_size] at hi hj
    unfold kdst at h
    split at h <;> split at h <;> omega
  step i o ho f w hu haft hrest K hK := by
    have hd : o.dst = some (kdst i) := by
      have hall : (knOps.toList.zipIdx.all fun x => (x.1.dst == some (kdst x.2))) = true := by kernel_rfl
      rw [List.all_eq_true] at hall
      have hm : (o, i) ∈ knOps.toList.zipIdx := by
        rw [List.mem_zipIdx_iff_getElem?]
        simpa using ho
      have h := hall _ hm
      simpa using h
    have hlt := (Array.getElem?_eq_some_iff.1 ho).1
    rw [knOps_size] at hlt
    exact ka_191 hL hB i hlt o f w K Q ⟨ho, hd, hu, haft, hrest⟩ hK
  post f w hu hall hrest := by
    obtain ⟨v, h1, h2⟩ := hall 190 (by rw [knOps_size]; omega)
    exact hpost f w hu ⟨v, h1, h2⟩ fun s hs => hrest s (kdst_rest hs)
end
end Go.Proofs.YtfmaflaoplkdbaaGreatDoor.Au
