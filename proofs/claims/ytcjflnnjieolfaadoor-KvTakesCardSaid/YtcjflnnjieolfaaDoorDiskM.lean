/- The disk as plain data: what each call makes of it and answers. No program here. -/
import Derived.Test.YtcjflnnjieolfaaDoorBase
namespace Go.Proofs.YtcjflnnjieolfaaDoor
open Go.RowKit

/-- A byte as a value. -/
def u8v (b : UInt8) : Value := .int .u8 (b.toNat : Int)
structure DS where
  byt : List UInt8
  syn : Nat
  dead : Bool
  fuse : Int
namespace DS
def append (d : DS) (b : List UInt8) : DS × Int :=
  if d.dead then (d, 20)
  else if 0 ≤ d.fuse ∧ d.fuse < b.length then ({ byt := d.byt ++ b.take d.fuse.toNat, syn := d.syn, dead := true, fuse := -1 }, 21)
  else ({ d with byt := d.byt ++ b, fuse := if 0 ≤ d.fuse then d.fuse - b.length else d.fuse }, 0)
def sync (d : DS) : DS × Int := if d.dead then (d, 20) else ({ d with syn := d.byt.length }, 0)
def cut (d : DS) (n : Int) : DS × Int := if d.dead then (d, 20) else if n < d.syn ∨ d.byt.length < n then (d, 1) else ({ d with byt := d.byt.take n.toNat }, 0)
def setFuse (d : DS) (n : Int) : DS × Int := if d.dead then (d, 20) else ({ d with fuse := max n (-1) }, 0)
def crash (d : DS) (keep : Int) : DS × Int :=
  if d.dead then (d, 20) else ({ byt := if 0 ≤ keep ∧ keep < (d.byt.length : Int) - d.syn then d.byt.take (d.syn + keep.toNat) else d.byt, syn := d.syn, dead := true, fuse := -1 }, 0)
def turn (d : DS) (at_ : Int) : DS × Int :=
  if d.dead = false ∨ at_ < 0 ∨ (d.byt.length : Int) ≤ at_ / 8 then (d, 1)
  else ({ d with byt := d.byt.set (at_.toNat / 8) ((d.byt.getD (at_.toNat / 8) 0) ^^^ (1 <<< UInt8.ofNat (at_.toNat % 8))) }, 0)
def restart (d : DS) : DS × Int := ({ d with dead := false }, 0)
/-- One act of a list (never a turn). -/
def act (d : DS) (k : Nat) (n : Int) (bs : List UInt8) : DS × Int :=
  match k % 7 with
  | 0 => d.append bs
  | 1 => d.sync
  | 2 => d.cut n
  | 3 => d.setFuse n
  | 4 => d.crash n
  | _ => d.restart
/-- What always holds. -/
structure Ok (d : DS) (B : Nat) : Prop where
  syn : d.syn ≤ d.byt.length
  len : d.byt.length ≤ B
  lo : -1 ≤ d.fuse
  hi : d.fuse ≤ 9223372036854775807
end DS
end Go.Proofs.YtcjflnnjieolfaaDoor
