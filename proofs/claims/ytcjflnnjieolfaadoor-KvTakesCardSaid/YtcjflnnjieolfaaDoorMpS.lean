/- A map in memory that has what a rising row of keys and values says. Over any program. -/
import Derived.Test.YtcjflnnjieolfaaDoorMpM
import Derived.Carry
namespace Go.Proofs.YtcjflnnjieolfaaDoor
open Go.RowKit Go.ChangeMaps Go.WideShapes

/-- A kind of maps: the types, how a key and a value are spelled, how a value reads. -/
structure MapKind (P : Program) (κ α : Type) where
  t : TypeId
  kt : TypeId
  et : TypeId
  K : Kys κ
  kv : κ → Value
  ev : α → Value
  okk : κ → Prop
  oke : α → Prop
  dat : α → DataW Unit
  R : Value → Option (DataW Unit × List MemPlace)
  z : α
  ht : P.underlying t = some (.map kt et)
  keyed : Maps.Keyed P kt
  hkey : ∀ {k}, okk k → keyOf P kt (kv k) = some (K.lit k)
  hR : ∀ {a}, oke a → R (ev a) = some (dat a, [])
  inv : ∀ {v a ps}, R v = some (dat a, ps) → v = ev a
  okz : oke z
  hz : ∀ w, (zeroValue et).run P w = .ok (ev z) w
section
variable {P : Program} {κ α : Type} {M : MapKind P κ α} {w w' : World} {g : Nat} {l : List (κ × α)}
/-- Block g is a map that has l. -/
def MapKind.is (M : MapKind P κ α) (w : World) (g : Nat) (l : List (κ × α)) : Prop := w.ownsMap P M.kt M.R g l.length (toD M.K M.dat l)
theorem owns_tight {k : TypeId} {R : Value → Option (DataW Unit × List MemPlace)} {b n : Nat} {D : DataW Unit} (h : w.ownsMap P k R b n D) : w.ownsMap P k R b (Maps.size D) D := by
  obtain ⟨es, clock, hb, F, hs, rfl⟩ := h
  exact ⟨es, clock, hb, F, by simp [Maps.size, length_sorted], rfl⟩
theorem MapKind.is_of {n : Nat} (h : w.ownsMap P M.kt M.R g n (toD M.K M.dat l)) : M.is w g l := by
  have := owns_tight h
  rwa [toD_size] at this
theorem MapKind.is_lt (h : M.is w g l) : g < w.heap.size := World.ownsMap.lt h
theorem MapKind.is_upd {S : List Nat} (h : M.is w g l) (hu : Upd S w w') (hS : g ∉ S) : M.is w' g l := by
  have hlt := MapKind.is_lt h
  obtain ⟨es, clock, hb, F, hs, hD⟩ := h
  exact ⟨es, clock, (hu.block g hlt hS).trans hb, F, hs, hD⟩
theorem MapKind.is_upd_nil (h : M.is w g l) (hu : Upd [] w w') : M.is w' g l := MapKind.is_upd h hu (by simp)
theorem MapKind.is_new (M : MapKind P κ α) (w : World) : M.is (w.alloc (.map #[] 0)) w.heap.size [] := World.ownsMap_made w P M.kt M.R
theorem MapKind.len (h : M.is w g l) (ty : TypeId) : (Builtin.len_ #[M.t] ty #[.map (some g)]).run P w = .ok (.int .i64 (l.length : Int)) w := by
  have := World.ownsMap.len (t := M.t) h M.ht ty
  rwa [toD_size] at this
theorem upd_of_grownRow {b : Nat} (h : w.grownBy w' (some b)) : Upd [b] w w' := Upd.of_grownBy h fun k e => by cases e; simp
end
section
variable {P : Program} {κ α : Type} [DecidableEq κ] {M : MapKind P κ α} {w w' : World} {g : Nat} {l : List (κ × α)} {k : κ} {v : α}
theorem MapKind.look (h : M.is w g l) (hk : M.okk k) : (Instr.lookup M.t (.map (some g)) (M.kv k) true).run P w = .ok (.tuple #[M.ev ((mfind l k).getD M.z), .bool (mfind l k).isSome]) w := by
  obtain ⟨v, ps, hr, hv⟩ := World.ownsMap.look_ok (t := M.t) h M.keyed M.ht (M.hz w) (M.hR M.okz) (M.hkey hk)
  rw [toD_at] at hv
  rw [toD_has] at hr
  have e : ((mfind l k).map M.dat).getD (M.dat M.z) = M.dat ((mfind l k).getD M.z) := by cases mfind l k <;> rfl
  rw [e] at hv
  rw [hr, M.inv hv]
theorem MapKind.look1 (h : M.is w g l) (hk : M.okk k) : (Instr.lookup M.t (.map (some g)) (M.kv k) false).run P w = .ok (M.ev ((mfind l k).getD M.z)) w := by
  obtain ⟨v, ps, hr, hv⟩ := World.ownsMap.lookup (t := M.t) h M.keyed M.ht (M.hz w) (M.hR M.okz) (M.hkey hk)
  rw [toD_at] at hv
  have e : ((mfind l k).map M.dat).getD (M.dat M.z) = M.dat ((mfind l k).getD M.z) := by cases mfind l k <;> rfl
  rw [e] at hv
  rw [hr, M.inv hv]
theorem MapKind.store (h : M.is w g l) (hk : M.okk k) (he : M.oke v) (hn : l.length < maxLen) :
    ∃ w', (Instr.mapUpdate M.t (.map (some g)) (M.kv k) (M.ev v)).run P w = .ok () w' ∧ M.is w' g (mput M.K l k v) ∧ Upd [g] w w' := by
  obtain ⟨w', hr, h1, h2⟩ := World.ownsMap.update (t := M.t) h M.keyed M.ht hn (M.hkey hk) (M.hR he)
  rw [toD_put] at h1
  exact ⟨w', hr, MapKind.is_of h1, upd_of_grownRow h2⟩
theorem MapKind.drop (h : M.is w g l) (hk : M.okk k) (ty : TypeId) :
    ∃ w', (Builtin.delete_ #[M.t, M.kt] ty #[.map (some g), M.kv k]).run P w = .ok (.tuple #[]) w' ∧ M.is w' g (mdel l k) ∧ Upd [g] w w' := by
  obtain ⟨w', hr, h1, h2⟩ := World.ownsMap.drop (t := M.t) h M.keyed M.ht (M.hkey hk) ty
  rw [toD_del] at h1
  exact ⟨w', hr, MapKind.is_of h1, upd_of_grownRow h2.grown⟩
end
end Go.Proofs.YtcjflnnjieolfaaDoor
