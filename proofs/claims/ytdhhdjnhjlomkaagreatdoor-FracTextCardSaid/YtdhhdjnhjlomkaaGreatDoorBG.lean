/- Joined texts. -/
import Derived.Test.YtdhhdjnhjlomkaaGreatDoorLb
import Derived.Test.YtdhhdjnhjlomkaaGreatDoorPL
import Derived.Test.YtdhhdjnhjlomkaaGreatDoorTb
import Derived.Test.YtdhhdjnhjlomkaaGreatDoorFD
/- begun, reckoned by the kernel. -/
set_option linter.unusedSimpArgs false
set_option linter.unusedVariables false
set_option maxRecDepth 100000
open Go Go.Avm
namespace Va
def smallS (s : List UInt8) : Bool := Nat.ble s.length 100000
def ascS (s : List UInt8) : Bool := s.all fun b => Nat.blt b.toNat 128
def pTrim : List AV → Option AV
  | [.str s, .str cs] => match smallS s && (smallS cs && ascS cs) with
    | true => some (.str (trimB s cs))
    | false => none
  | _ => none
def pTrimLeft : List AV → Option AV
  | [.str s, .str cs] => match smallS s && (smallS cs && ascS cs) with
    | true => some (.str (trimL cs s))
    | false => none
  | _ => none
def pIndexAny : List AV → Option AV
  | [.str s, .str cs] => match (smallS s && ascS s) && (smallS cs && ascS cs) with
    | true => match anyAt cs s 0 with
      | some i => some (.int .i64 (Int.ofNat i))
      | none => some (.int .i64 (-1))
    | false => none
  | _ => none
def pCut : List AV → Option AV
  | [.str s, .str (y :: sep)] => match smallS s with
    | true => match cutAt (y :: sep) s [] with
      | some (a, b) => some (.tup [.str a, .str b, .bool true])
      | none => some (.tup [.str s, .str [], .bool false])
    | false => none
  | _ => none
def pRepeat : List AV → Option AV
  | [.str s, .int .i64 (.ofNat n)] => match smallS s && Nat.ble n 100000 with
    | true => some (.str (repB s n))
    | false => none
  | _ => none
def pAtoi : List AV → Option AV
  | [.str (c :: s)] => match (smallS (c :: s) && allDig (c :: s)) && Nat.ble (decVal (c :: s) 0) 100000 with
    | true => some (.tup [.int .i64 (Int.ofNat (decVal (c :: s) 0)), nilErr])
    | false => none
  | _ => none
def pFormat : List AV → Option AV
  | [.int .u64 (.ofNat n), .int .i64 (.ofNat 10)] => match Nat.ble n 18446744073709551615 with
    | true => some (.str (decText 20 n []))
    | false => none
  | _ => none
def pParse : List AV → Option AV
  | [.str (c :: s), .int .i64 (.ofNat 10), .int .i64 (.ofNat 32)] => match (smallS (c :: s) && allDig (c :: s)) && Nat.ble (decVal (c :: s) 0) 4294967295 with
    | true => some (.tup [.int .u64 (Int.ofNat (decVal (c :: s) 0)), nilErr])
    | false => none
  | _ => none
/-- What stands for the library's functions. -/
def prim (g : FuncId) (args : List AV) : Option AV := match Nat.beq g n_strconv_FormatUint with
  | true => pFormat args
  | false => match Nat.beq g n_strings_Trim with
    | true => pTrim args
    | false => match Nat.beq g n_strconv_ParseUint with
      | true => pParse args
      | false => match Nat.beq g n_strings_Repeat with
        | true => pRepeat args
        | false => match Nat.beq g n_strings_Cut with
          | true => pCut args
          | false => match Nat.beq g n_strings_IndexAny with
            | true => pIndexAny args
            | false => match Nat.beq g n_strings_TrimLeft with
              | true => pTrimLeft args
              | false => match Nat.beq g n_strconv_Atoi with
                | true => pAtoi args
                | false => none
variable {G : Glob}
theorem smallS_le {s : List UInt8} (h : smallS s = true) : s.length ≤ 100000 := Nat.le_of_ble_eq_true h
theorem ascS_all {s : List UInt8} (h : ascS s = true) : s.all (fun b => decide (b.toNat < 128)) = true := by
  unfold ascS at h
  rw [List.all_eq_true] at h ⊢
  intro b hb
  have := h b hb
  simp [Nat.blt] at this
  simp; omega
theorem prim_ok (hG : GOK G) : ∀ g args v, FrzL args → prim g args = some v → PE P G g args v := by
  intro g args v hz h
  clear hz
  unfold prim at h
  split at h
  · next e =>
    rw [Nat.eq_of_beq_eq_true e]
    unfold pFormat at h
    split at h
    · next n =>
      split at h
      · next hn =>
        injection h with h; subst h
        have hn' := Nat.le_of_ble_eq_true hn
        rw [decText_eq 20 n [] (by omega) (by decide), List.append_nil]
        exact (formatUint_px hG n (by omega)).2
      · cases h
    · cases h
  split at h
  · next e =>
    rw [Nat.eq_of_beq_eq_true e]
    unfold pTrim at h
    split at h
    · next s cs =>
      split at h
      · next hc =>
        injection h with h; subst h
        simp only [Bool.and_eq_true] at hc
        have h1 := smallS_le hc.1; have h2 := smallS_le hc.2.1
        rw [trimB_eq]
        exact (trim_px s cs (by omega) (by omega) (ascS_all hc.2.2)).2
      · cases h
    · cases h
  split at h
  · next e =>
    rw [Nat.eq_of_beq_eq_true e]
    unfold pParse at h
    split at h
    · next c s =>
      split at h
      · next hc =>
        injection h with h; subst h
        simp only [Bool.and_eq_true] at hc
        have h1 := smallS_le hc.1.1; have h2 := Nat.le_of_ble_eq_true hc.2
        exact (parseUint_px (c :: s) (by omega) _ (parseB_eq (by simp) hc.1.2 h2)).2
      · cases h
    · cases h
  split at h
  · next e =>
    rw [Nat.eq_of_beq_eq_true e]
    unfold pRepeat at h
    split at h
    · next s n =>
      split at h
      · next hc =>
        injection h with h; subst h
        simp only [Bool.and_eq_true] at hc
        have h1 := smallS_le hc.1; have h2 := Nat.le_of_ble_eq_true hc.2
        rw [repB_eq]
        have := Nat.mul_le_mul h1 h2
        exact (repeat_px s n (by omega) (by omega)).2
      · cases h
    · cases h
  split at h
  · next e =>
    rw [Nat.eq_of_beq_eq_true e]
    unfold pCut at h
    split at h
    · next s y sep =>
      split at h
      · next hc =>
        have h1 := smallS_le hc
        have hp := (cut_px hG s (y :: sep) (by omega)).2
        rw [cutAt_eq (y :: sep) (by simp)] at h
        unfold Lib.cut at hp
        by_cases h0 : 0 ≤ Lib.index s (y :: sep)
        · simp only [if_pos h0] at h hp
          injection h with h; subst h
          simpa using hp
        · simp only [if_neg h0] at h hp
          injection h with h; subst h
          exact hp
      · cases h
    · cases h
  split at h
  · next e =>
    rw [Nat.eq_of_beq_eq_true e]
    unfold pIndexAny at h
    split at h
    · next s cs =>
      split at h
      · next hc =>
        simp only [Bool.and_eq_true] at hc
        have h1 := smallS_le hc.1.1; have h2 := smallS_le hc.2.1
        have hp := (indexAny_px (G := G) s cs (by omega) (by omega) (ascS_all hc.1.2) (ascS_all hc.2.2)).2
        rw [anyAt_eq] at h
        have hge := Lib.indexAny_ge cs s
        by_cases h0 : 0 ≤ Lib.indexAny s cs
        · simp only [if_pos h0] at h
          injection h with h; subst h
          have e : Int.ofNat (0 + (Lib.indexAny s cs).toNat) = Lib.indexAny s cs := by simp; omega
          rw [e]; exact hp
        · simp only [if_neg h0] at h
          injection h with h; subst h
          have e : Lib.indexAny s cs = -1 := by omega
          rw [e] at hp; exact hp
      · cases h
    · cases h
  split at h
  · next e =>
    rw [Nat.eq_of_beq_eq_true e]
    unfold pTrimLeft at h
    split at h
    · next s cs =>
      split at h
      · next hc =>
        injection h with h; subst h
        simp only [Bool.and_eq_true] at hc
        have h1 := smallS_le hc.1; have h2 := smallS_le hc.2.1
        rw [trimL_eq]
        exact (trimLeft_px s cs (by omega) (ascS_all hc.2.2)).2
      · cases h
    · cases h
  split at h
  · next e =>
    rw [Nat.eq_of_beq_eq_true e]
    unfold pAtoi at h
    split at h
    · next c s =>
      split at h
      · next hc =>
        injection h with h; subst h
        simp only [Bool.and_eq_true] at hc
        have h1 := smallS_le hc.1.1; have h2 := Nat.le_of_ble_eq_true hc.2
        exact (atoi_px (c :: s) (by omega) _ (atoi_eq (by simp) hc.1.2 (by omega))).2
      · cases h
    · cases h
  · cases h
/-- Functions whose results stay own; function values that may be called; functions ahead of whose calls own arguments become trees. -/
def kp : FuncId → Bool := fun f => Nat.beq f n_slices_Clone || Nat.beq f n_mat_Mat_copied
def en : FuncId → Bool := fun f => Nat.beq f n_vec_New_1 || (Nat.beq f n_mat_Mat_Solve_1 || (Nat.beq f n_mat_Mat_Rank_1 || Nat.beq f n_mat_reduced_1))
def fz : FuncId → Bool := fun f => !(Nat.beq f n_nat_step || (Nat.beq f n_slices_SortFunc || (Nat.beq f n_slices_pdqsortCmpFunc || (Nat.beq f n_slices_insertionSortCmpFunc || (Nat.beq f n_mat_reduced || (Nat.beq f n_mat_cleared || (Nat.beq f n_slices_IndexFunc || (Nat.beq f n_mat_reduced_1 || Nat.beq f n_vec_New_1))))))))
theorem en_ok : ∀ g, en g = true → Ent P g := by
  intro g h
  unfold en at h
  simp only [Bool.or_eq_true] at h
  rcases h with h | h | h | h <;> rw [Nat.eq_of_beq_eq_true h] <;> exact ⟨_, rfl, by kernel_rfl, by kernel_rfl⟩
end Va
/- begun returns true. -/
set_option maxRecDepth 100000
open Go Go.Avm
namespace Va
def big : AV := .str [51,52,48,50,56,50,51,54,54,57,50,48,57,51,56,52,54,51,52,54,51,51,55,52,54,48,55,52,51,49,55,54,56,50,49,49,52,53,54]
def nbig : AV := .ptr [.sl 5 [.int .u32 0, .int .u32 0, .int .u32 0, .int .u32 0, .int .u32 1]] 0
def oneF : AV := .ptr [.bool false, .ptr [.sl 1 [.int .u32 1]] 0, .ptr [.sl 1 [.int .u32 1]] 0] 0
def twoF : AV := .ptr [.bool false, .ptr [.sl 1 [.int .u32 2]] 0, .ptr [.sl 1 [.int .u32 1]] 0] 0
def thrF : AV := .ptr [.bool false, .ptr [.sl 1 [.int .u32 3]] 0, .ptr [.sl 1 [.int .u32 1]] 0] 0
def matF : AV := .ptr [.sl 2 [.sl 2 [twoF, oneF], .sl 2 [oneF, oneF]], .int .i64 2] 0
theorem m1 : evFn kp fz tb prim en 1000 40 n_nat_Get [big] [] = some (.tup [nbig, .bool true], []) := by kernel_rfl
theorem m2 : evFn kp fz tb prim en 1000 40 n_nat_Nat_Text [nbig] [] = some (big, []) := by kernel_rfl
theorem m3 : evFn kp fz tb prim en 1000 40 n_mat_Mat_Solve [matF, .sl 2 [thrF, twoF]] [] = some (.tup [.sl 2 [oneF, oneF], .bool true], []) := by kernel_rfl
theorem m4 : evFn kp fz tb prim en 1000 40 n_mat_Mat_Rank [matF] [] = some (.int .i64 2, []) := by kernel_rfl
def mems : List Mem := [⟨n_nat_Get, [big], .tup [nbig, .bool true]⟩, ⟨n_nat_Nat_Text, [nbig], big⟩, ⟨n_mat_Mat_Solve, [matF, .sl 2 [thrF, twoF]], .tup [.sl 2 [oneF, oneF], .bool true]⟩, ⟨n_mat_Mat_Rank, [matF], .int .i64 2⟩]
theorem begun_ev : evFn kp fz tb (memo prim mems) en 1000 40 n_law1_begun [] [] = some (.bool true, []) := by kernel_rfl
variable {G : Glob}
theorem mems_ok (hG : GOK G) : MemOK P G mems := by
  intro m hm
  simp only [mems, List.mem_cons, List.not_mem_nil, or_false] at hm
  rcases hm with rfl | rfl | rfl | rfl
  · exact PE_of_ev fol tb_ok (prim_ok hG) en_ok m1 (by kernel_rfl)
  · exact PE_of_ev fol tb_ok (prim_ok hG) en_ok m2 (by kernel_rfl)
  · exact PE_of_ev fol tb_ok (prim_ok hG) en_ok m3 (by kernel_rfl)
  · exact PE_of_ev fol tb_ok (prim_ok hG) en_ok m4 (by kernel_rfl)
theorem begun_px (hG : GOK G) : PX P G n_law1_begun [] (.bool true) :=
  ⟨by simp only [avmF], PE_of_ev fol tb_ok (memo_ok (prim_ok hG) (mems_ok hG)) en_ok begun_ev (by kernel_rfl)⟩
end Va
