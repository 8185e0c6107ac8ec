/-
  Opening the laws' arguments: calls, orders. No condition.
-/
import Derived.Test.YtojcojoleodjmaaRows
import Derived.Test.YtojcojoleodjmaaArg
import Derived.Test.YtojcojoleodjmaaSpA
import Derived.ShutString
namespace Go.Proofs.Ytojcojoleodjmaa
open Go.RowKit Go.Sh Go.Deep Go.ChangeShapes Go.WideShapes Go.ChangeAt

theorem ownKnobs : ownKnob Try.prog.godebug = none := by kernel_rfl
theorem laidOut : laidOutB Try.prog = true := by kernel_rfl
theorem Try.cells3 : Try.prog.cellsOf 3 = 1 := by kernel_rfl
theorem Try.cells5 : Try.prog.cellsOf 5 = 1 := by kernel_rfl
abbrev U8 (x : Int) : List Value := [.int .u8 x]
theorem U8_len (x : Int) : (U8 x).length = 1 := rfl
theorem Try.cells80 : Try.prog.cellsOf 80 = 6 := by kernel_rfl
theorem Try.cells77 : Try.prog.cellsOf 77 = 2 := by kernel_rfl
theorem Try.cells2 : Try.prog.cellsOf 2 = 1 := by kernel_rfl

theorem list6 {α : Type} {l : List α} (h : l.length = 6) : ∃ a b c d e f, l = [a, b, c, d, e, f] := by
  match l, h with
  | [a, b, c, d, e, f], _ => exact ⟨a, b, c, d, e, f, rfl⟩

section
variable {H : Type} {en : TypeId × Value → H} {w : World} {base : Nat} {spare : Nat → Bool} {held : Bool}

theorem trod_struct5 {P : Program} {t : TypeId} {f0 f1 f2 f3 f4 : Field} {fuel : Nat} {cs : List Value} {x : DataW H × List MemPlace} (ht : P.underlying t = some (.struct #[f0, f1, f2, f3, f4])) (h : DataW.trod en P w base spare held fuel t cs = some x) :
    ∃ y0 y1 y2 y3 y4 n, cs.length = P.cellsOf t ∧ DataW.trod en P w base spare held n f0.type ((cs.drop f0.offset).take (P.cellsOf f0.type)) = some y0 ∧
      DataW.trod en P w base spare held n f1.type ((cs.drop f1.offset).take (P.cellsOf f1.type)) = some y1 ∧ DataW.trod en P w base spare held n f2.type ((cs.drop f2.offset).take (P.cellsOf f2.type)) = some y2 ∧
      DataW.trod en P w base spare held n f3.type ((cs.drop f3.offset).take (P.cellsOf f3.type)) = some y3 ∧ DataW.trod en P w base spare held n f4.type ((cs.drop f4.offset).take (P.cellsOf f4.type)) = some y4 := by
  obtain ⟨xs, n, _, rfl, hl, hlen, hf⟩ := DataW.trod_struct ht h
  match xs, hlen with
  | [y0, y1, y2, y3, y4], _ => exact ⟨y0, y1, y2, y3, y4, n, hl, by simpa using hf 0 f0 rfl, by simpa using hf 1 f1 rfl, by simpa using hf 2 f2 rfl, by simpa using hf 3 f3 rfl, by simpa using hf 4 f4 rfl⟩

theorem ccel (fuel : Nat) (cs : List Value) (y : DataW H × List MemPlace) (h : DataW.trod en Try.prog w base spare held fuel 80 cs = some y) :
    ∃ x : C6, cs = CC x ∧ True := by
  obtain ⟨y0, y1, y2, y3, y4, n, hl, h0, h1, h2, h3, h4⟩ := trod_struct5 Try.underlying80 h
  rw [Try.cells80] at hl
  obtain ⟨c0, c1, c2, c3, c4, c5, rfl⟩ := list6 hl
  obtain ⟨a, e0, _, _⟩ := DataW.trod_int Try.underlying3 h0
  obtain ⟨b, e1, _, _⟩ := DataW.trod_int Try.underlying3 h1
  obtain ⟨z0, z1, m, _, _, g0, g1⟩ := trod_struct2 Try.underlying77 h2
  obtain ⟨c, e2, _, _⟩ := DataW.trod_int Try.underlying3 g0
  obtain ⟨d, e3, _, _⟩ := DataW.trod_int Try.underlying2 g1
  obtain ⟨e, e4, _, _⟩ := DataW.trod_int Try.underlying3 h3
  obtain ⟨f, e5, _, _⟩ := DataW.trod_int Try.underlying3 h4
  simp only [Try.cells3, Try.cells2, Try.cells77] at e0 e1 e2 e3 e4 e5
  simp at e0 e1 e2 e3 e4 e5
  subst e0 e1 e2 e3 e4 e5
  exact ⟨⟨a, b, ⟨c, d⟩, e, f⟩, rfl, trivial⟩

theorem u8el (fuel : Nat) (cs : List Value) (y : DataW H × List MemPlace) (h : DataW.trod en Try.prog w base spare held fuel 5 cs = some y) :
    ∃ x : Int, cs = U8 x ∧ (Lit.int .u8 x).wf = true := by
  obtain ⟨a, e0, _, wa⟩ := DataW.trod_int Try.underlying5 h
  exact ⟨a, e0, wa⟩

theorem i64el (fuel : Nat) (cs : List Value) (y : DataW H × List MemPlace) (h : DataW.trod en Try.prog w base spare held fuel 3 cs = some y) :
    ∃ x : Int, cs = I x ∧ True := by
  obtain ⟨a, e0, _, _⟩ := DataW.trod_int Try.underlying3 h
  exact ⟨a, e0, trivial⟩

end
end Go.Proofs.Ytojcojoleodjmaa
