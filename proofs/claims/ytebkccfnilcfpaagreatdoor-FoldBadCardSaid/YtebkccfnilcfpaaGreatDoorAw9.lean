/- Chapter 9's fixed fact: the languages' tables are told. -/
import Derived.Test.YtebkccfnilcfpaaGreatDoorAw8
import Derived.Test.YtebkccfnilcfpaaGreatDoorHEng
import Derived.Test.YtebkccfnilcfpaaGreatDoorHGer
import Derived.Test.YtebkccfnilcfpaaGreatDoorHFre
import Derived.Test.YtebkccfnilcfpaaGreatDoorHPol
namespace Go.Proofs.YtebkccfnilcfpaaGreatDoor
set_option linter.unusedVariables false
set_option linter.unusedSimpArgs false
open Go Go.Sy Go.RowKit

def langs : List HCtr := [engC, gerC, freC, polC]

theorem langs_ok (FN : Fns) : ∀ c ∈ langs, HOk FN c := fun c hc => by
  simp only [langs, List.mem_cons, List.not_mem_nil, or_false] at hc
  rcases hc with rfl | rfl | rfl | rfl
  · exact engC_ok FN
  · exact gerC_ok FN
  · exact freC_ok FN
  · exact polC_ok FN

theorem aw9 : AwIs8 42 := aw_any8 (hs := langs) (aw_one8 aw8) (langs_ok fns0) fun _ _ _ _ _ => by kernel_rfl
end Go.Proofs.YtebkccfnilcfpaaGreatDoor
