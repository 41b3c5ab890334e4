/- Hint: a part of the proof that each law of this seat answers true at every input. No condition. -/
import Derived.Test.YtjnkigaiogjfcaaDoorEvG
import Derived.Test.YtjnkigaiogjfcaaDoorProg
set_option linter.unusedVariables false
set_option linter.unusedSimpArgs false
set_option maxRecDepth 20000
section
/- The hints of the evaluator for this program, and what it says of calls. -/
namespace Go.Proofs.YtjnkigaiogjfcaaDoor
open Go Go.Ev
set_option linter.unusedVariables false
noncomputable section

def n_law07_RegexBrackets : FuncId := 6
def n_law07_awake : FuncId := 9
def n_regex_Of : FuncId := 12
def n_ref07_Of : FuncId := 13
def n_law07_Few : FuncId := 14
def n_ref01_Of : FuncId := 15
def n_regex_Right : FuncId := 16
def n_regex_Star : FuncId := 17
def n_regex_Cat : FuncId := 18
def n_regex_Either : FuncId := 19
def n_regex_Text : FuncId := 20
def n_law07_letter : FuncId := 22
def n_ref07_Text : FuncId := 23
def n_ref07_Star : FuncId := 25
def n_ref07_Cat : FuncId := 26
def n_ref07_Either : FuncId := 27
def n_ref01_Count : FuncId := 28
def n_law07_picker_some : FuncId := 29
def n_law07_picker_pick : FuncId := 30
def n_ref01_with : FuncId := 31
def n_slices_ContainsFunc_api_Re_api_Re : FuncId := 32
def n_regex_Right_1 : FuncId := 33
def n_regex_same : FuncId := 34
def n_regex_flat : FuncId := 35
def n_regex_is : FuncId := 36
def n_regex_of : FuncId := 37
def n_slices_DeleteFunc_api_Re_api_Re : FuncId := 38
def n_byteset_Join : FuncId := 39
def n_slices_Insert_api_Re_api_Re : FuncId := 40
def n_slices_SortStableFunc_api_Re_api_Re : FuncId := 41
def n_regex_Either_1 : FuncId := 42
def n_strings_Compare : FuncId := 43
def n_slices_CompactFunc_api_Re_api_Re : FuncId := 44
def n_regex_Either_2 : FuncId := 45
def n_ref01_Ranges : FuncId := 48
def n_ref07_digits : FuncId := 49
def n_ref07_flat : FuncId := 50
def n_ref07_some : FuncId := 51
def n_ref01_Join : FuncId := 52
def n_ref07_put : FuncId := 53
def n_ref01_Has : FuncId := 54
def n_law07_picker_re : FuncId := 55
def n_slices_IndexFunc_api_Re_api_Re : FuncId := 56
def n_slices_EqualFunc_api_Re_api_Re_api_Re_api_Re : FuncId := 57
def n_regex_is_1 : FuncId := 58
def n_slices_stableCmpFunc_api_Re : FuncId := 61
def n_regex_set : FuncId := 65
def n_ref01_pick : FuncId := 66
def n_slices_insertionSortCmpFunc_api_Re : FuncId := 68
def n_slices_symMergeCmpFunc_api_Re : FuncId := 69
def n_byteset_Ranges : FuncId := 72
def n_strconv_Itoa : FuncId := 73
def n_strings_Join : FuncId := 74
def n_slices_rotateCmpFunc_api_Re : FuncId := 76
def n_slices_swapRangeCmpFunc_api_Re : FuncId := 81
def ksT : List (Nat × Ks) := [(4, [(16, [5])]),
 (5, [(6, [3, 5, 6, 7])]),
 (6, [(10, [5, 6, 7, 8, 9])]),
 (7, [(8, [3, 4, 5, 6, 7, 8, 9])]),
 (8, [(3, [0, 3, 4])]),
 (10, [(2, [0, 3])]),
 (11, [(4, [2, 3, 5])]),
 (15, [(3, [0, 1, 4, 5, 6]), (4, [0, 1, 4, 5, 6])]),
 (16, [(15, [])]),
 (17, [(7, [1, 2])]),
 (19, [(4, [0, 2, 3, 10, 11, 12]), (8, [0, 2, 3, 10, 11, 12]), (12, [0, 2])]),
 (21, [(3, [1, 3, 4])]),
 (23, [(10, [3, 4, 5]), (14, [3, 4, 5]), (11, [3, 4, 5]), (18, [1, 3, 6]), (23, [1, 3, 7]), (27, [1, 3, 7]), (24, [1, 3, 7])]),
 (24, [(2, [1, 3]), (20, [])]),
 (25, [(7, [1, 2])]),
 (26, [(4, [2, 3, 4, 5]), (5, [2, 3, 4, 5])]),
 (27, [(5, [2, 3, 4, 5, 6]), (6, [2, 3, 4, 5, 6]), (11, [2, 3, 4]), (12, [2, 3, 4, 7]), (13, [2, 3, 4, 7])]),
 (28, [(3, [1, 3, 4]), (4, [1, 3, 4])]),
 (29, [(3, [0, 1, 2, 7, 8])]),
 (35, [(2, [1, 4, 7, 8, 9]), (7, [1, 4, 7, 8, 9])]),
 (38, [(5, [0, 1, 5, 6]), (6, [0, 1, 5, 6])]),
 (39, [(2, [2, 4, 7, 8])]),
 (44, [(4, [0, 1, 5]), (9, [0, 1, 5, 6, 7]), (10, [0, 1, 5, 6, 7])]),
 (46, [(13, [0, 3, 4, 5, 6]), (15, [0, 4, 6, 34, 35, 36]), (19, [0, 4, 6, 8, 34, 35, 36]), (20, [0, 4, 6, 34, 35, 36])]),
 (48, [(3, [1, 3, 4]), (4, [1, 3, 4])]),
 (50, [(3, [0, 1, 5, 6]), (4, [0, 1, 5, 6])]),
 (53, [(5, [0, 3, 5, 6, 7, 8]), (10, [0, 3, 5, 6, 7, 8, 9]), (13, [0, 3, 5, 6, 7, 8]), (6, [0, 3, 5, 6, 7, 8]), (16, [5])]),
 (55, [(4, [0, 1, 4, 5])]),
 (56, [(2, [0, 1, 7, 8])]),
 (57, [(4, [1, 2, 15, 16, 17])]),
 (61, [(2, [0, 1, 2, 6, 7, 8]), (7, [0, 1, 2, 6]), (9, [0, 1, 2, 6, 7, 8]), (16, [0, 1, 2, 6])]),
 (65, [(3, [3, 7, 8, 9])]),
 (66, [(3, [2, 3, 4, 5, 6, 7, 12, 13, 14]), (4, [2, 3, 4, 5, 6, 7, 12, 13, 14])]),
 (68, [(1, [0, 1, 2, 3, 8]), (4, [0, 1, 2, 3, 8, 9])]),
 (69, [(3, [0, 1, 4, 10, 11]), (9, [0, 10, 13]), (15, [0, 2, 4, 14, 15]), (21, [0, 14, 17]), (32, [0, 1, 2, 3, 4, 18, 19, 20, 21]), (33, [0, 1, 2, 3, 4, 18, 19, 20, 21, 22]), (41, [0, 1, 3, 4, 18, 20, 24]), (43, [0, 3, 4, 18, 24])]),
 (74, [(10, [0, 1, 5]), (11, [0, 1, 5]), (12, [0, 1, 5, 39, 40, 41]), (16, [0, 1, 5, 7, 39, 40, 41]), (17, [0, 1, 5, 39, 40, 41]), (22, [1, 8, 63, 64, 65])]),
 (75, [(1, [0, 2, 3])]),
 (76, [(2, [0, 2, 4, 10, 11])]),
 (80, [(3, [0, 1])]),
 (81, [(1, [0, 1, 2, 3, 10])]),
 (82, [(1, [0, 5, 6]), (3, [0, 3, 4, 5, 6])]),
 (84, [(8, [0, 5, 6])]),
 (88, [(1, [0, 1, 4]), (20, [0, 4, 12]), (25, [0, 4, 12])]),
 (89, [(3, [0, 1, 2, 3, 4, 10, 11]), (7, [0, 1, 2, 3, 4, 10, 11, 12, 13]), (11, [0, 1, 3, 4, 10, 11, 12, 13, 14, 15, 16]), (18, [0, 1, 3, 4, 10, 11, 12, 13, 17]), (25, [0, 3, 4, 10, 11, 12, 13]), (28, [0, 4, 10, 11, 12, 13])]),
 (92, [(4, [0, 2]), (7, [0, 2]), (10, [0, 2])])]
def ksOf : List (Nat × Ks) → Nat → Ks
 | [], _ => []
 | (i, k) :: r, f => match Nat.beq i f with
  | true => k
  | false => ksOf r f
def isIn : List Nat → Nat → Bool
 | [], _ => false
 | i :: r, f => match Nat.beq i f with
  | true => true
  | false => isIn r f
def orcT : List (Nat × (CallO → List V → Heap → Option (Out × Heap))) := [(20, oTxt 65)]
theorem orcT_fine : ∀ p ∈ orcT, FineG p.2 := orcs_cons (oTxt_fine 65) (orcs_nil)
def hint : Hint := { keep := isIn [35, 38, 40], ks := ksOf ksT, own := isIn [38, 41, 44, 56, 32, 40, 61, 68, 69, 76, 81], intr := intrAt [(73, iRd gItoa), (74, iRd gJoin), (83, iRd gTZ), (43, iRd gCmp), (72, iRd gRanges), (40, iInsert)], orc := orcAt orcT, fine := orc_fine orcT_fine, nrm := isIn [16], lend := isIn [10, 8] }
def D : DefO := dfr0 Tryd.prog hint
def E : CallO := EV Tryd.prog hint D
end
end Go.Proofs.YtjnkigaiogjfcaaDoor
end

