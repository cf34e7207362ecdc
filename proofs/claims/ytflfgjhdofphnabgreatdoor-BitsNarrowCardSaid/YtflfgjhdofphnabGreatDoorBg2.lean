/- begun returns true. -/
import Derived.Test.YtflfgjhdofphnabGreatDoorBg
set_option maxRecDepth 100000
open Go Go.Avm
namespace Va
def big : AV := .str [51,52,48,50,56,50,51,54,54,57,50,48,57,51,56,52,54,51,52,54,51,51,55,52,54,48,55,52,51,49,55,54,56,50,49,49,52,53,54]
def nbig : AV := .ptr [.sl 5 [.int .u32 0, .int .u32 0, .int .u32 0, .int .u32 0, .int .u32 1]] 0
def oneF : AV := .ptr [.bool false, .ptr [.sl 1 [.int .u32 1]] 0, .ptr [.sl 1 [.int .u32 1]] 0] 0
def twoF : AV := .ptr [.bool false, .ptr [.sl 1 [.int .u32 2]] 0, .ptr [.sl 1 [.int .u32 1]] 0] 0
def thrF : AV := .ptr [.bool false, .ptr [.sl 1 [.int .u32 3]] 0, .ptr [.sl 1 [.int .u32 1]] 0] 0
def matF : AV := .ptr [.sl 2 [.sl 2 [twoF, oneF], .sl 2 [oneF, oneF]], .int .i64 2] 0
theorem m1 : evFn kp fz tb prim en 1000 40 n_nat_Get [big] [] = some (.tup [nbig, .bool true], []) := by kernel_rfl
theorem m2 : evFn kp fz tb prim en 1000 40 n_nat_Nat_Text [nbig] [] = some (big, []) := by kernel_rfl
theorem m3 : evFn kp fz tb prim en 1000 40 n_mat_Mat_Solve [matF, .sl 2 [thrF, twoF]] [] = some (.tup [.sl 2 [oneF, oneF], .bool true], []) := by kernel_rfl
theorem m4 : evFn kp fz tb prim en 1000 40 n_mat_Mat_Rank [matF] [] = some (.int .i64 2, []) := by kernel_rfl
def mems : List Mem := [⟨n_nat_Get, [big], .tup [nbig, .bool true]⟩, ⟨n_nat_Nat_Text, [nbig], big⟩, ⟨n_mat_Mat_Solve, [matF, .sl 2 [thrF, twoF]], .tup [.sl 2 [oneF, oneF], .bool true]⟩, ⟨n_mat_Mat_Rank, [matF], .int .i64 2⟩]
theorem begun_ev : evFn kp fz tb (memo prim mems) en 1000 40 n_law1_begun [] [] = some (.bool true, []) := by kernel_rfl
variable {G : Glob}
theorem mems_ok (hG : GOK G) : MemOK P G mems := by
  intro m hm
  simp only [mems, List.mem_cons, List.not_mem_nil, or_false] at hm
  rcases hm with rfl | rfl | rfl | rfl
  · exact PE_of_ev fol tb_ok (prim_ok hG) en_ok m1 (by kernel_rfl)
  · exact PE_of_ev fol tb_ok (prim_ok hG) en_ok m2 (by kernel_rfl)
  · exact PE_of_ev fol tb_ok (prim_ok hG) en_ok m3 (by kernel_rfl)
  · exact PE_of_ev fol tb_ok (prim_ok hG) en_ok m4 (by kernel_rfl)
theorem begun_px (hG : GOK G) : PX P G n_law1_begun [] (.bool true) :=
  ⟨by simp only [avmF], PE_of_ev fol tb_ok (memo_ok (prim_ok hG) (mems_ok hG)) en_ok begun_ev (by kernel_rfl)⟩
end Va
