/-
  The formulas that numbers determine, as a plain function. Nothing is asked.
-/
import Derived.Test.YtgkdeknfmmgbdaaMdA
namespace Go.Proofs.Ytgkdeknfmmgbdaa
set_option linter.unusedVariables false
set_option linter.unusedSimpArgs false
open Go.RowKit

def nameB4 : Nat → ByteArray
  | 0 => priceB | 1 => lowB | 2 => qualB | _ => ⟨#[100, 97, 121, 115]⟩
/-- One number more. -/
def madeStep (st : List Ex) (z : Int) : List Ex :=
  let n := modZ z 1000
  if n % 10 = 0 ∨ n % 10 = 1 then st ++ [numE (quickZ (n / 10 % 13 - 3) (1 + n / 10 / 13 % 4))]
  else if n % 10 = 2 ∨ n % 10 = 3 ∨ n % 10 = 4 then st ++ [nameE (nameB4 (n / 10 % 4).toNat)]
  else match st.reverse with
    | b :: a :: r => r.reverse ++ [opE' (opNm (n / 10 % 6).toNat) a b]
    | _ => st
def madeJoin : Ex → List Ex → Ex
  | e, [] => e
  | e, t :: ts => madeJoin (opE' addB e t) ts
def madeE (l : List Int) : Ex :=
  match (l.take 80).foldl madeStep [] with
  | [] => nameE priceB
  | t :: ts => madeJoin t ts
end Go.Proofs.Ytgkdeknfmmgbdaa
