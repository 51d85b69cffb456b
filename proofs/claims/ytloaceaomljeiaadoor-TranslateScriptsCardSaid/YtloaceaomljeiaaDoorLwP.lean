/- A client's put of the laws of layer 25; rows in blocks of their own. -/
import Derived.Test.YtloaceaomljeiaaDoorTrG
import Derived.Test.YtloaceaomljeiaaDoorWkM
namespace Go.Proofs.YtloaceaomljeiaaDoor.Tr
open Go.RowKit Go.Lib Go.Proofs.YtloaceaomljeiaaDoor.Crc Go.Proofs.YtloaceaomljeiaaDoor.Cm Go.Proofs.YtloaceaomljeiaaDoor.Var

theorem src_blk {w : World} {b n z : Nat} {cs : List Value} {t : TypeId} (h : w.heap[b]? = some (.cells cs.toArray t (0, 0))) (hn : cs.length = n * z) (h1 : ∀ u ∈ cs, u.oneCell' = true) : SrcAt w (some ⟨b, 0, none⟩) n n cs z := by
  refine ⟨hn, h1, by simp, fun a e j u hj => ?_⟩
  cases e
  rw [add_plain]
  simp only [World.cell?, h]
  simpa using hj
theorem row_blk {X : Type} {K : Kind X} {w : World} {T : Nat → Prop} {b : Nat} {l : List X} {css : List (List Value)} {t : TypeId} (h : Each (K.holds w T) l css) (hg : w.heap[b]? = some (.cells css.flatten.toArray t (0, 0))) (hT : T b) (hm : l.length ≤ maxLen) : K.row w T (.slice (some ⟨b, 0, none⟩) l.length l.length) l :=
  have hz : ∀ cs ∈ css, cs.length = K.z := fun cs hc => by obtain ⟨x, -, h2⟩ := h.mem hc; exact K.len h2
  ⟨_, _, css, rfl, h, hz, src_blk hg (by rw [flat_len hz, h.len]) (fun u hu => by
    obtain ⟨cs, hc, hu'⟩ := List.mem_flatten.1 hu
    obtain ⟨x, -, h2⟩ := h.mem hc
    exact K.one h2 u hu'), Nat.le_refl _, hm, fun a ha _ => by cases ha; exact hT⟩
theorem lput_any (c : Nat) (x : Int) (hx : x = (c : Int)) (w : World) : Calls Tryd.prog 17 #[.int .u32 x] w fun e w' => (∃ b, e = .returned (.agg #[.int .u32 (c : Int), .int .u32 1, .int .u8 1, .slice (some ⟨b, 0, none⟩) 1 1, .string (strOf []), .string (strOf [118]), .int .i64 0]) ∧ Strs w' (since w.heap.size w') (.slice (some ⟨b, 0, none⟩) 1 1) [[107]]) ∧ Upd [] w w' := by
  subst hx
  go_enter Tryd.func17, Tryd.ntmps17
  go_wp2_with fail
  refine ret_cm1 (blk_alloc (blk_new w _) _) rfl rfl rfl ⟨⟨w.heap.size + 1, rfl, ?_⟩, ((Upd.refl [] w).alloc _).alloc _⟩
  refine ⟨_, _, rfl, src_blk (t := 9) (cs := [.string ⟨#[107]⟩]) ?_ rfl (by simp [Value.oneCell']), Nat.le_refl _, by simp [maxLen], fun a ha _ => by cases ha; exact ⟨by simp, by simp⟩⟩
  have := blk_new (w.alloc (.cells #[.int .u32 (c : Int), .int .u32 1, .int .u8 1, .slice (some ⟨w.heap.size + 1, 0, none⟩) 1 1, .string ⟨#[]⟩, .string ⟨#[118]⟩, .int .i64 0] TCmd)) (.cells #[.string ⟨#[107]⟩] 9)
  rw [World.size_alloc] at this
  exact this
end Go.Proofs.YtloaceaomljeiaaDoor.Tr
