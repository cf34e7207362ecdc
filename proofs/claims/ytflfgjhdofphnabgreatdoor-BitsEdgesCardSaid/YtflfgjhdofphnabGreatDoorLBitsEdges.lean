/- The law BitsEdges on trees: a closed sentence, reckoned by the kernel. -/
import Derived.Test.YtflfgjhdofphnabGreatDoorBg2
import Derived.Test.YtflfgjhdofphnabGreatDoorTbE
set_option linter.unusedVariables false
set_option maxRecDepth 100000
open Go Go.Avm
namespace Va
theorem BitsEdges_ev : evFn kp fz tbE (memo prim [⟨n_law1_begun, [], .bool true⟩]) en 1000 40 n_law1_BitsEdges [] [] = some (.bool true, []) := by kernel_rfl
variable {G : Glob}
theorem BitsEdges_px (hG : GOK G) : PX P G n_law1_BitsEdges [] (.bool true) :=
  ⟨by simp only [avmF], PE_of_ev fol tbE_ok (memo_ok (prim_ok hG) (fun m hm => by
    simp only [List.mem_cons, List.not_mem_nil, or_false] at hm
    subst hm
    exact (begun_px hG).2)) en_ok BitsEdges_ev (by kernel_rfl)⟩
end Va
