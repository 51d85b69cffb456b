/- The known histories of the law AuditKnown, as plain data, and how rows of them lie in memory. -/
import Derived.Test.YtfmaflaoplkdbaaGreatDoorAlMX
import Derived.Test.YtfmaflaoplkdbaaGreatDoorAuSJ
set_option linter.unusedSimpArgs false
set_option linter.unusedVariables false
set_option linter.unnecessarySimpa false
namespace Go.Proofs.YtfmaflaoplkdbaaGreatDoor.Au
open Go.RowKit Go.Proofs.YtfmaflaoplkdbaaGreatDoor.Crc Go.Proofs.YtfmaflaoplkdbaaGreatDoor.Cm Go.Proofs.YtfmaflaoplkdbaaGreatDoor.Tr Go.Proofs.YtfmaflaoplkdbaaGreatDoor.Kv
set_option linter.unusedSimpArgs false
set_option linter.unusedVariables false

def lK : List En := [⟨1, 0, 0, putA 1⟩, ⟨2, 0, 0, Cm.zero⟩, ⟨1, 0, 0, putA 2⟩, ⟨2, 0, 0, Cm.zero⟩]
def pK : An := ansA 1 0 []
def qK : An := ansA 2 0 []
def wK : An := ansA 1 2 []
def oK : An := ansA 1 3 []
def tE (e : Int) : To := ⟨e, [], []⟩
def tT (al : List An) (ds : List Dn) : To := ⟨0, al, ds⟩
def rowsK : List (List To × List (Nat × Nat)) := [
  ([], []),
  ([tE 0, tT [pK] [(1, xA)], tE 0, tT [qK] [(2, yA)]], []),
  ([tE 0, tT [pK] [(1, xA)], tE 0, tT [qK] [(1, yA)]], [(3, 1)]),
  ([tE 0, tT [pK] [(1, xA)], tE 0, tT [wK] [(1, xA)]], [(3, 2)]),
  ([tE 0, tT [pK] [(1, xA)], tE 0, tT [oK] [(1, xA)]], []),
  ([tE 0, tT [qK] [(1, yA)]], [(1, 3)]),
  ([tE 40, tT [pK] [(1, xA)]], [(1, 3)]),
  ([tE 21, tT [pK] [(1, xA)]], []),
  ([tE 0, tE 0, tE 0, tT [pK, qK] [(1, xA), (3, yA)]], [(3, 4)]),
  ([tE 0, tT [wK] [(1, xA)]], [(1, 5)]),
  ([tE 0, tT [] [(1, xA)]], [(1, 5)]),
  ([tE 0, tT [pK] [(2, xA)], tE 0, tT [qK] [(1, yA)]], [(2, 6)]),
  ([tE 0, tE 0, tE 0, tT [pK, qK] [(1, xyA)], tT [] [(1, xyA)]], [])]
theorem rowsK_found : ∀ r ∈ rowsK, foundM lK r.1 = r.2 := by
  intro r hr
  simp only [rowsK, List.mem_cons, List.not_mem_nil, or_false] at hr
  rcases hr with rfl | rfl | rfl | rfl | rfl | rfl | rfl | rfl | rfl | rfl | rfl | rfl | rfl <;> kernel_rfl
theorem rowsK_small : ∀ r ∈ rowsK, r.1.length ≤ 40 ∧ ∀ t ∈ r.1, t.done.length ≤ 20 ∧ t.ans.length ≤ 60 ∧ ∀ d ∈ t.done, d.2 = xA ∨ d.2 = yA ∨ d.2 = xyA := by
  intro r hr
  simp only [rowsK, List.mem_cons, List.not_mem_nil, or_false] at hr
  rcases hr with rfl | rfl | rfl | rfl | rfl | rfl | rfl | rfl | rfl | rfl | rfl | rfl | rfl <;> simp [tE, tT]
  rintro a b (⟨-, rfl⟩ | ⟨-, rfl⟩) <;> simp
def rkK : Kind (List To × List (Nat × Nat)) where
  z := 2
  hz := by decide
  holds w T r cs := ∃ (vt vw : Value), cs = [vt, vw] ∧ toK.row w T vt r.1 ∧ fnK.row w T vw r.2
  len := by rintro w T c cs ⟨vt, vw, rfl, -⟩; rfl
  one := by
    rintro w T c cs ⟨vt, vw, rfl, h1, h2⟩
    have := row_one h1; have := row_one h2
    intro u hu
    simp only [List.mem_cons, List.not_mem_nil, or_false] at hu
    rcases hu with rfl | rfl <;> assumption
  upd := by rintro w w' T c cs S ⟨vt, vw, h0, h1, h2⟩ hu hS; exact ⟨vt, vw, h0, toK.row_upd h1 hu hS, fnK.row_upd h2 hu hS⟩
  mono := by rintro w T U c cs ⟨vt, vw, h0, h1, h2⟩ hT; exact ⟨vt, vw, h0, toK.row_mono h1 hT, fnK.row_mono h2 hT⟩
end Go.Proofs.YtfmaflaoplkdbaaGreatDoor.Au
