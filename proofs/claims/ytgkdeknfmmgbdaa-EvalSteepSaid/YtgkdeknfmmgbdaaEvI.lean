/-
  The examples that each statement begins with: what they give, reckoned. Nothing is asked.
-/
import Derived.Test.YtgkdeknfmmgbdaaEvH
namespace Go.Proofs.Ytgkdeknfmmgbdaa
set_option linter.unusedVariables false
set_option linter.unusedSimpArgs false
open Go.RowKit

abbrev priceB : ByteArray := ⟨#[112, 114, 105, 99, 101]⟩
abbrev lowB : ByteArray := ⟨#[108, 111, 119]⟩
abbrev qualB : ByteArray := ⟨#[113, 117, 97, 108, 105, 116, 121]⟩
abbrev mulB : ByteArray := ⟨#[42]⟩
abbrev quoB : ByteArray := ⟨#[47]⟩
abbrev subB : ByteArray := ⟨#[45]⟩
abbrev addB : ByteArray := ⟨#[43]⟩
abbrev minB : ByteArray := ⟨#[109, 105, 110]⟩
abbrev opE' (s : ByteArray) (a b : Ex) : Ex := .mk s (0, 0) nilB [a, b]
abbrev exT1 : Ex := opE' quoB (opE' mulB (numE (60, 1)) (nameE lowB)) (nameE priceB)
abbrev exT2 : Ex := opE' quoB (numE (1, 1)) (opE' subB (nameE priceB) (nameE lowB))
abbrev exHalf : Ex := opE' quoB (numE (1, 1)) (numE (2, 1))
abbrev exT3 : Ex := opE' minB (nameE priceB) exHalf
abbrev exT4 : Ex := opE' addB (nameE qualB) (numE (1, 1))
abbrev exZero : Ex := opE' quoB (numE (1, 1)) (numE (0, 1))
abbrev exT5 : Ex := opE' quoB (opE' addB (opE' mulB (numE (2, 1)) (numE (3, 1))) (nameE priceB)) exZero
abbrev exT6 : Ex := opE' quoB (opE' addB (numE (6, 1)) (nameE priceB)) exZero
theorem ex1 : evalI [(priceB, 90), (lowB, 60)] exT1 = ((40, 1), 0) := by decide +kernel
theorem ex2 : evalI [(priceB, 5), (lowB, 5)] exT2 = ((0, 0), 15) := by decide +kernel
theorem ex3 : evalI [(priceB, 3)] exT3 = ((1, 2), 0) := by decide +kernel
theorem ex4 : evalI [(priceB, 3)] exT4 = ((0, 0), 13) := by decide +kernel
theorem ex5 : simpE exT5 = exT6 := by kernel_rfl
end Go.Proofs.Ytgkdeknfmmgbdaa
