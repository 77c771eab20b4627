/-
  A piece of a function's code, taken out of it by a region's number. No program in sight.
-/
import Derived.WalkKit
namespace Go.Proofs.Ythbkklnahhdgcaa.Cut
open Go

/-- Is region n in it? -/
def holds (n : Nat) : Code → Bool
  | .region i _ _ => i == n
  | .seq a b => holds n a || holds n b
  | .block _ c => holds n c
  | .loop c => holds n c
  | .scope c => holds n c
  | .cond _ a b => holds n a || holds n b
  | _ => false
/-- Region n. -/
def region (n : Nat) : Code → Option Code
  | .region i ops d => if i = n then some (.region i ops d) else none
  | .seq a b => match region n a with
    | some c => some c
    | none => region n b
  | .block _ c => region n c
  | .loop c => region n c
  | .scope c => region n c
  | .cond _ a b => match region n a with
    | some c => some c
    | none => region n b
  | _ => none
/-- The innermost loop that holds region n. -/
def loop (n : Nat) : Code → Option Code
  | .loop c => match loop n c with
    | some d => some d
    | none => if holds n c = true then some (.loop c) else none
  | .seq a b => match loop n a with
    | some c => some c
    | none => loop n b
  | .block _ c => loop n c
  | .scope c => loop n c
  | .cond _ a b => match loop n a with
    | some c => some c
    | none => loop n b
  | _ => none
/-- Its body. -/
def body (n : Nat) (c : Code) : Option Code := match loop n c with
  | some (.loop d) => some d
  | _ => none
/-- What begins with region n, up to the end of the sequence in which it stands. -/
def tail (n : Nat) : Code → Option Code
  | .seq (.region i ops d) b => if i = n then some (.seq (.region i ops d) b) else tail n b
  | .seq a b => match tail n a with
    | some c => some c
    | none => tail n b
  | .block _ c => tail n c
  | .loop c => tail n c
  | .scope c => tail n c
  | .cond _ a b => match tail n a with
    | some c => some c
    | none => tail n b
  | _ => none
/-- A piece of a function. -/
def piece (f : Func) (g : Code → Option Code) : Code := (f.body.bind g).getD .skip
end Go.Proofs.Ythbkklnahhdgcaa.Cut
