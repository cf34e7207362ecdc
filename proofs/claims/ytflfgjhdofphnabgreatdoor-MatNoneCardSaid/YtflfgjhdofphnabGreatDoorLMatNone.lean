/- The law MatNone on trees: a closed sentence, reckoned by the kernel. -/
import Derived.Test.YtflfgjhdofphnabGreatDoorBg2
import Derived.Test.YtflfgjhdofphnabGreatDoorTbN
set_option linter.unusedVariables false
set_option maxRecDepth 100000
open Go Go.Avm
namespace Va
def enN : FuncId → Bool := fun f => Nat.beq f n_mat_Mat_Inverse_1 || en f
theorem enN_ok : ∀ g, enN g = true → Ent P g := by
  intro g h
  unfold enN at h
  rw [Bool.or_eq_true] at h
  rcases h with h | h
  · rw [Nat.eq_of_beq_eq_true h]; exact ⟨_, rfl, by kernel_rfl, by kernel_rfl⟩
  · exact en_ok g h
theorem MatNone_ev : evFn kp fz tbN (memo prim [⟨n_law1_begun, [], .bool true⟩]) enN 1000 40 n_law1_MatNone [] [] = some (.bool true, []) := by kernel_rfl
variable {G : Glob}
theorem MatNone_px (hG : GOK G) : PX P G n_law1_MatNone [] (.bool true) :=
  ⟨by simp only [avmF], PE_of_ev fol tbN_ok (memo_ok (prim_ok hG) (fun m hm => by
    simp only [List.mem_cons, List.not_mem_nil, or_false] at hm
    subst hm
    exact (begun_px hG).2)) enN_ok MatNone_ev (by kernel_rfl)⟩
end Va
