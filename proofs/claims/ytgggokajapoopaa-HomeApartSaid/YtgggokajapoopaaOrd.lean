/- The program's word, as a list of signs. -/
import Derived.Test.YtgggokajapoopaaRw
namespace Go.Proofs
set_option maxRecDepth 100000
/-- The program's word, sign for sign. -/
def wordSigns : List Char := [104, 97, 114, 110, 101, 115, 115, 32, 54, 56, 54, 49, 100, 57, 99, 102, 49, 56, 57, 54, 56, 53, 101, 56, 97, 98, 48, 102, 56, 101, 55, 102, 56, 102, 51, 101, 48, 56, 54, 53, 52, 48, 97, 98, 56, 102, 49, 49, 48, 53, 51, 55, 49, 56, 48, 53, 57, 50, 48, 99, 101, 53, 101, 51, 53, 48, 99, 48, 51, 102, 55, 49, 32, 99, 117, 116, 32, 97, 116, 32, 113, 117, 97, 100, 114, 105, 108, 108, 101, 47, 113, 117, 97, 100, 114, 105, 108, 108, 101, 108, 97, 119, 49, 48, 46, 76, 105, 110, 101, 115, 80, 108, 97, 121, 115, 32, 113, 117, 97, 100, 114, 105, 108, 108, 101, 47, 113, 117, 97, 100, 114, 105, 108, 108, 101, 108, 97, 119, 49, 48, 46, 76, 105, 110, 101, 115, 84, 101, 108, 108, 115, 32, 113, 117, 97, 100, 114, 105, 108, 108, 101, 47, 113, 117, 97, 100, 114, 105, 108, 108, 101, 108, 97, 119, 49, 48, 46, 76, 105, 110, 101, 115, 80, 117, 116, 115, 32, 113, 117, 97, 100, 114, 105, 108, 108, 101, 47, 113, 117, 97, 100, 114, 105, 108, 108, 101, 108, 97, 119, 49, 48, 46, 76, 105, 110, 101, 115, 68, 114, 111, 112, 115, 32, 113, 117, 97, 100, 114, 105, 108, 108, 101, 47, 113, 117, 97, 100, 114, 105, 108, 108, 101, 108, 97, 119, 49, 48, 46, 76, 105, 110, 101, 115, 82, 111, 111, 109, 32, 113, 117, 97, 100, 114, 105, 108, 108, 101, 47, 113, 117, 97, 100, 114, 105, 108, 108, 101, 108, 97, 119, 49, 48, 46, 76, 105, 110, 101, 115, 77, 97, 107, 101, 115, 32, 113, 117, 97, 100, 114, 105, 108, 108, 101, 47, 113, 117, 97, 100, 114, 105, 108, 108, 101, 108, 97, 119, 49, 48, 46, 76, 105, 110, 101, 115, 67, 111, 112, 105, 101, 115, 32, 113, 117, 97, 100, 114, 105, 108, 108, 101, 47, 113, 117, 97, 100, 114, 105, 108, 108, 101, 108, 97, 119, 49, 50, 46, 72, 111, 109, 101, 79, 116, 104, 101, 114, 32, 113, 117, 97, 100, 114, 105, 108, 108, 101, 47, 113, 117, 97, 100, 114, 105, 108, 108, 101, 108, 97, 119, 49, 50, 46, 72, 111, 109, 101, 83, 101, 114, 118, 101, 115, 32, 113, 117, 97, 100, 114, 105, 108, 108, 101, 47, 113, 117, 97, 100, 114, 105, 108, 108, 101, 108, 97, 119, 49, 50, 46, 72, 111, 109, 101, 65, 112, 97, 114, 116, 32, 113, 117, 97, 100, 114, 105, 108, 108, 101, 47, 113, 117, 97, 100, 114, 105, 108, 108, 101, 108, 97, 119, 49, 50, 46, 72, 111, 109, 101, 80, 108, 97, 121, 32, 113, 117, 97, 100, 114, 105, 108, 108, 101, 47, 113, 117, 97, 100, 114, 105, 108, 108, 101, 108, 97, 119, 49, 50, 46, 72, 111, 109, 101, 81, 117, 101, 117, 101, 115, 32, 113, 117, 97, 100, 114, 105, 108, 108, 101, 47, 113, 117, 97, 100, 114, 105, 108, 108, 101, 108, 97, 119, 49, 50, 46, 72, 111, 109, 101, 78, 105, 108, 32, 113, 117, 97, 100, 114, 105, 108, 108, 101, 47, 113, 117, 97, 100, 114, 105, 108, 108, 101, 108, 97, 119, 49, 51, 46, 67, 97, 99, 104, 101, 66, 121, 116, 101, 115, 32, 113, 117, 97, 100, 114, 105, 108, 108, 101, 47, 113, 117, 97, 100, 114, 105, 108, 108, 101, 108, 97, 119, 49, 51, 46, 67, 97, 99, 104, 101, 80, 108, 97, 121, 32, 113, 117, 97, 100, 114, 105, 108, 108, 101, 47, 113, 117, 97, 100, 114, 105, 108, 108, 101, 108, 97, 119, 49, 51, 46, 67, 97, 99, 104, 101, 65, 115, 107, 115, 32, 113, 117, 97, 100, 114, 105, 108, 108, 101, 47, 113, 117, 97, 100, 114, 105, 108, 108, 101, 108, 97, 119, 49, 51, 46, 67, 97, 99, 104, 101, 84, 97, 107, 101, 115, 32, 113, 117, 97, 100, 114, 105, 108, 108, 101, 47, 113, 117, 97, 100, 114, 105, 108, 108, 101, 108, 97, 119, 49, 51, 46, 67, 97, 99, 104, 101, 67, 111, 112, 105, 101, 115, 32, 113, 117, 97, 100, 114, 105, 108, 108, 101, 47, 113, 117, 97, 100, 114, 105, 108, 108, 101, 108, 97, 119, 49, 51, 46, 67, 97, 99, 104, 101, 78, 105, 108, 32, 113, 117, 97, 100, 114, 105, 108, 108, 101, 47, 113, 117, 97, 100, 114, 105, 108, 108, 101, 108, 97, 119, 49, 51, 46, 67, 97, 99, 104, 101, 82, 117, 110, 115, 32, 113, 117, 97, 100, 114, 105, 108, 108, 101, 47, 113, 117, 97, 100, 114, 105, 108, 108, 101, 108, 97, 119, 49, 51, 46, 67, 97, 99, 104, 101, 69, 110, 100, 115].map Char.ofNat
theorem Try.order : Try.prog.initOrder = String.ofList wordSigns := by kernel_rfl
theorem Try.orderList : Try.prog.initOrder.toList = wordSigns := by
  rw [Try.order]
  exact String.toList_ofList
theorem mayEnter_of {P : Program} {rest : List (List Char)} (h : behindMainWord (wordsSigns P.initOrder.toList) = "cut".toList :: rest) (hs : stripLifts liftWords ("cut".toList :: rest) = ([], "cut".toList :: rest))
    (h1 : P.laysLater = false) (h2 : P.bearsReflect = false) (h3 : P.doorFits [] = true) : P.mayEnter = true := by
  unfold Program.mayEnter
  rw [h]
  dsimp only
  rw [hs]
  simp [h1, h2, h3]
theorem Try.laysLater : Try.prog.laysLater = false := by kernel_rfl
theorem Try.bearsReflect : Try.prog.bearsReflect = false := by kernel_rfl
theorem Try.doorFits : Try.prog.doorFits [] = true := by kernel_rfl
theorem Try.entersMain : Try.prog.mayEnter = true :=
  mayEnter_of (rest := (behindMainWord (wordsSigns Try.prog.initOrder.toList)).tail) (by rw [Try.orderList]; kernel_rfl) (by rw [Try.orderList]; kernel_rfl) Try.laysLater Try.bearsReflect Try.doorFits
theorem Try.lifted : Try.prog.liftsFinal = false := by
  unfold Program.liftsFinal Program.headLifts
  rw [Try.orderList]
  kernel_rfl
theorem Try.heard : Try.prog.stopsHeard = true := by kernel_rfl
theorem Try.rowed : mapsRowed Try.prog = true := by kernel_rfl
theorem Try.noStops : (Try.prog.stops == []) = true := by kernel_rfl
theorem Try.noKnobs : (Try.prog.stopKnobs == []) = true := by kernel_rfl
theorem Try.keysPlain : (true == Try.prog.plainKeys) = true := by kernel_rfl
theorem make_of {P : Program} {rest : List (List Char)} (h : behindMainWord (wordsSigns P.initOrder.toList) = "cut".toList :: rest) : P.make = some .cut := by
  unfold Program.make
  rw [h]
  dsimp only
  simp
theorem Try.make : Try.prog.make = some .cut :=
  make_of (rest := (behindMainWord (wordsSigns Try.prog.initOrder.toList)).tail) (by rw [Try.orderList]; kernel_rfl)
end Go.Proofs
