/- A string that came in. -/
import Derived.Test.YtbifecejaphcfaaDoorRowE
namespace Go.Proofs.YtbifecejaphcfaaDoor
open Go Go.Proofs Go.WideShapes
set_option linter.unusedSimpArgs false
set_option linter.unusedVariables false

theorem open_str {H : Type} {enc : TypeId × Value → H} {P : Program} {W : World} {base : Nat} {spare : Nat → Bool} {held : Bool} {r : Reach} {b0 : Nat} {t : TypeId} {v : Value} {d : DataW H} {ps : List MemPlace}
    (ht : P.underlying t = some .string) (hval : Value.okWide P W r b0 t v) (hd : DataW.Trod enc P W base spare held t v d ps) :
    ∃ l : List UInt8, v = .string ⟨l.toArray⟩ ∧ l.length ≤ 9223372036854775807 := by
  obtain ⟨s, rfl⟩ := okWide_string ht hval
  obtain ⟨fuel, hf⟩ := hd
  obtain ⟨s', h, hx, hw⟩ := DataW.trod_string ht hf
  simp [Value.cells] at h
  subst h
  obtain ⟨⟨l⟩⟩ := s
  exact ⟨l, rfl, hw⟩
end Go.Proofs.YtbifecejaphcfaaDoor
