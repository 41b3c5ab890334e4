/- Hint: a part of the proof that each law of this seat answers true at every input. No condition. -/
import Derived.Test.YtjnnegacjmcdbaaEvF
import Derived.Test.YtjnnegacjmcdbaaProg
set_option linter.unusedVariables false
set_option linter.unusedSimpArgs false
set_option maxRecDepth 20000
section
/- The hints of the evaluator for this program, and what it says of calls. -/
namespace Go.Proofs.Ytjnnegacjmcdbaa
open Go Go.Ev
set_option linter.unusedVariables false
noncomputable section

def n_main_main : FuncId := 0
def n_gosem_cut : FuncId := 1
def n_gosem_cut_init : FuncId := 2
def n_law03_ReaderSmall : FuncId := 3
def n_law03_ReaderDeep : FuncId := 4
def n_law03_ReaderTwo : FuncId := 5
def n_law03_ReaderLines : FuncId := 6
def n_law03_ReaderNumbers : FuncId := 7
def n_law03_ReaderRepeats : FuncId := 8
def n_law03_Pieces : FuncId := 9
def n_law03_signs : FuncId := 10
def n_law03_awake : FuncId := 11
def n_law03_same : FuncId := 12
def n_law03_many : FuncId := 13
def n_reader_Read : FuncId := 14
def n_ref03_SameLines : FuncId := 15
def n_law03_digits : FuncId := 16
def n_ref03_Read : FuncId := 17
def n_reader_Read_1 : FuncId := 18
def n_reader_reader_rules : FuncId := 19
def n_ref03_Same : FuncId := 20
def n_ref03_blank : FuncId := 21
def n_ref03_reader_at : FuncId := 22
def n_ref03_reader_ends : FuncId := 23
def n_ref03_reader_rule : FuncId := 24
def n_ref03_reader_fail : FuncId := 25
def n_reader_reader_cut : FuncId := 26
def n_reader_run : FuncId := 27
def n_reader_isBlank : FuncId := 28
def n_reader_reader_end : FuncId := 29
def n_reader_reader_rule : FuncId := 30
def n_reader_want : FuncId := 31
def n_ref03_reader_name : FuncId := 32
def n_ref03_reader_skip : FuncId := 33
def n_ref03_reader_alt : FuncId := 34
def n_reader_reader_is : FuncId := 35
def n_reader_reader_end_1 : FuncId := 36
def n_strings_HasPrefix : FuncId := 37
def n_reader_reader_name : FuncId := 38
def n_reader_reader_room : FuncId := 39
def n_reader_reader_take : FuncId := 40
def n_reader_reader_ways : FuncId := 41
def n_reader_fail : FuncId := 42
def n_ref03_alpha : FuncId := 43
def n_ref03_digit : FuncId := 44
def n_ref03_lower : FuncId := 45
def n_ref03_reader_seq : FuncId := 46
def n_internal_stringslite_HasPrefix : FuncId := 47
def n_reader_isLetter : FuncId := 48
def n_reader_reader_name_1 : FuncId := 49
def n_reader_isDigit : FuncId := 50
def n_reader_small : FuncId := 51
def n_reader_reader_row : FuncId := 52
def n_reader_some : FuncId := 53
def n_ref03_reader_repeat : FuncId := 54
def n_ref03_reader_begins : FuncId := 55
def n_reader_reader_repeated : FuncId := 56
def n_reader_reader_begins : FuncId := 57
def n_ref03_reader_number : FuncId := 58
def n_ref03_reader_element : FuncId := 59
def n_reader_reader_number : FuncId := 60
def n_reader_reader_element : FuncId := 61
def n_strings_IndexByte : FuncId := 62
def n_ref03_reader_group : FuncId := 63
def n_ref03_reader_text : FuncId := 64
def n_ref03_reader_value : FuncId := 65
def n_reader_digit : FuncId := 66
def n_reader_reader_group : FuncId := 67
def n_reader_fold : FuncId := 68
def n_reader_reader_quoted : FuncId := 69
def n_reader_reader_percent : FuncId := 70
def n_internal_stringslite_IndexByte : FuncId := 71
def n_ref03_reader_quoted : FuncId := 72
def n_ref03_reader_need : FuncId := 73
def n_reader_reader_quoted_1 : FuncId := 74
def n_reader_reader_values : FuncId := 75
def n_reader_exact : FuncId := 76
def n_internal_bytealg_IndexByteString : FuncId := 77
def n_reader_reader_value : FuncId := 78
def n_runtime_boundsError_Error : FuncId := 79
def n_runtime_boundsError_RuntimeError : FuncId := 80
def n_runtime_errorString_Error : FuncId := 81
def n_runtime_errorString_RuntimeError : FuncId := 82
def n_runtime_plainError_Error : FuncId := 83
def n_runtime_plainError_RuntimeError : FuncId := 84
def n_runtime_errorAddressString_Error : FuncId := 85
def n_runtime_errorAddressString_RuntimeError : FuncId := 86
def n_runtime_TypeAssertionError_Error : FuncId := 87
def n_runtime_TypeAssertionError_RuntimeError : FuncId := 88
def n_runtime_PanicNilError_Error : FuncId := 89
def n_runtime_PanicNilError_RuntimeError : FuncId := 90
def n_internal_abi_Type_Align : FuncId := 91
def n_internal_runtime_maps_unhashableTypeError_Error : FuncId := 92
def n_internal_runtime_maps_unhashableTypeError_RuntimeError : FuncId := 93
def n_internal_abi_Kind_String : FuncId := 94
def ty_func : TypeId := 1
def ty_int64 : TypeId := 2
def ty_int : TypeId := 3
def ty_bool : TypeId := 4
def ty_uint8 : TypeId := 5
def ty_abi_BoundsErrorCode : TypeId := 6
def ty_struct_x_int64_y_int_signed_bool_code_abi_BoundsErrorCode : TypeId := 7
def ty_runtime_boundsError : TypeId := 8
def ty_string : TypeId := 9
def ty_runtime_errorString : TypeId := 10
def ty_runtime_plainError : TypeId := 11
def ty_uintptr : TypeId := 12
def ty_struct_msg_string_addr_uintptr : TypeId := 13
def ty_runtime_errorAddressString : TypeId := 14
def ty_runtime_TypeAssertionError : TypeId := 15
def ty_runtime_PanicNilError : TypeId := 16
def ty_abi_Type : TypeId := 17
def ty_struct_typ_abi_Type : TypeId := 18
def ty_maps_unhashableTypeError : TypeId := 19
def ty_interface : TypeId := 20
def ty_int32 : TypeId := 21
def ty__uint8 : TypeId := 22
def ty_func_uint8_string_string : TypeId := 23
def ty__string : TypeId := 24
def ty_func_string : TypeId := 25
def ty_func_bool : TypeId := 26
def ty_funcstring_bool : TypeId := 27
def ty_func_uint8_bool : TypeId := 28
def ty_funcstring_int_string : TypeId := 29
def ty_funcuint8_uint8_bool : TypeId := 30
def ty__api_Line : TypeId := 31
def ty_api_Errno : TypeId := 32
def ty__api_Line_api_Errno : TypeId := 33
def ty_funcstring_api_Line_api_Errno : TypeId := 34
def ty_func_api_Line_api_Line_bool : TypeId := 35
def ty_funcstring_string_uint8_uint8_bool_bool : TypeId := 36
def ty_funcstring_uint8_bool_bool : TypeId := 37
def ty_funcuint8_uint8_bool_bool : TypeId := 38
def ty_uint16 : TypeId := 39
def ty_funcint_string : TypeId := 40
def ty_funcuint16_uint16_uint8_bool : TypeId := 41
def ty__int : TypeId := 42
def ty__api_Expr : TypeId := 43
def ty_struct_Kind_int_Text_string_N_int_Min_int_Max_int_Kids_api_Expr : TypeId := 44
def ty_api_Expr : TypeId := 45
def ty_struct_Name_string_More_bool_Expr_api_Expr : TypeId := 46
def ty_api_Line : TypeId := 47
def ty_reader_reader : TypeId := 48
def ty_struct_s_string : TypeId := 49
def ty_func_api_Line : TypeId := 51
def ty_funcapi_Expr_api_Expr_bool : TypeId := 52
def ty_regletref03_reader : TypeId := 53
def ty_struct_S_string_At_int_E_api_Errno : TypeId := 54
def ty_funcint_bool : TypeId := 56
def ty_funcint_int : TypeId := 57
def ty_func_int : TypeId := 58
def ty_funcapi_Errno : TypeId := 60
def ty_funcstring_funcuint8_bool_int : TypeId := 61
def ty_funcuint8_bool : TypeId := 62
def ty_funcbool_api_Errno : TypeId := 63
def ty_funcint_api_Expr : TypeId := 65
def ty_funcstring_string_bool : TypeId := 66
def ty_funcuint8_uint8 : TypeId := 67
def ty_funcstring_string : TypeId := 68
def ty_funcint_api_Expr_api_Expr : TypeId := 69
def ty_funcint_int_int : TypeId := 70
def ty_int_bool : TypeId := 71
def ty_funcint_int_int_bool : TypeId := 72
def ty_funcstring_uint8_int : TypeId := 73
def ty_funcint_int_api_Expr : TypeId := 74
def ty_funcbool_api_Expr : TypeId := 75
def ty_func_api_Expr : TypeId := 76
def ty_funcuint8_int : TypeId := 77
def ty_funcuint8_int_api_Expr : TypeId := 78
def ty_funcstring_api_Expr : TypeId := 79
def ty_map_uint8_int : TypeId := 80
def ty_struct_interface_abi_Type_concrete_abi_Type_asserted_abi_Type_missingMethod_string : TypeId := 81
def ty__0_runtime_PanicNilError : TypeId := 83
def ty_struct_0_runtime_PanicNilError : TypeId := 84
def ty_uint32 : TypeId := 86
def ty_abi_TFlag : TypeId := 87
def ty_abi_Kind : TypeId := 88
def ty_funcunsafe_Pointer_unsafe_Pointer_bool : TypeId := 89
def ty_abi_NameOff : TypeId := 91
def ty_abi_TypeOff : TypeId := 92
def ty_struct_Size_uintptr_PtrBytes_uintptr_Hash_uint32_TFlag_abi_TFlag_Align_uint8_FieldAlign_uint8_Kind_abi_Kind_Equal_funcunsafe_Pointer_unsafe_Pointer_bool_GCData_uint8_Str_abi_NameOff_PtrToThis_abi_TypeOff : TypeId := 93
def ty_unsafe_Pointer : TypeId := 95

def ksT : List (Nat × Ks) := [(5, [(6, [0, 1, 11])]),
  (6, [(6, [0, 7])]),
  (7, [(3, [1, 2, 7, 8]), (9, [1, 2, 7, 8]), (4, [1, 2, 7, 8])]),
  (9, [(3, [0, 1, 5, 6])]),
  (13, [(3, [0, 1, 5, 6])]),
  (15, [(4, [0, 1, 5])]),
  (17, [(5, [0, 4, 5]), (7, [0, 4, 5, 6])]),
  (19, [(1, [0, 2])]),
  (20, [(4, [2, 3, 5]), (9, [2, 3, 6])]),
  (23, [(4, [0, 3]), (6, [0, 3])]),
  (24, [(5, [0, 2, 3]), (9, [0, 2, 3]), (15, [0, 2, 3, 4])]),
  (27, [(2, [0, 1, 7, 8])]),
  (29, [(5, [0, 3])]),
  (32, [(3, [0, 3, 4]), (9, [0, 3]), (11, [3])]),
  (33, [(2, [0, 3])]),
  (34, [(2, [0, 1, 4, 5]), (10, [4, 5])]),
  (39, [(2, [0, 3]), (8, [0, 3])]),
  (40, [(4, [5])]),
  (41, [(2, [0, 1, 4, 5])]),
  (46, [(2, [0, 1, 4, 5]), (7, [4, 5])]),
  (51, [(3, [3, 8, 9, 10]), (7, [3, 8, 9, 10])]),
  (52, [(2, [0, 1, 4, 5])]),
  (54, [(7, [0, 1, 4, 5, 6, 7]), (13, [4, 5, 6, 8])]),
  (56, [(6, [0, 1, 4, 5, 6, 7, 8, 9]), (11, [4, 5, 7, 10])]),
  (58, [(2, [0, 1, 2, 7]), (9, [0, 1, 2, 7, 9]), (14, [0, 1, 2, 7])]),
  (60, [(1, [0, 1, 2, 6, 7])]),
  (63, [(4, [0, 1, 2, 6]), (9, [0, 6, 7])]),
  (64, [(4, [1, 4, 5, 6, 7]), (10, [4, 5, 6, 8]), (13, [4, 6])]),
  (65, [(5, [0, 2, 3]), (18, [0, 2, 4]), (27, [0, 2, 4, 5]), (32, [2, 5])]),
  (72, [(3, [0, 3]), (8, [0, 3])]),
  (73, [(4, [5])]),
  (75, [(7, [0, 1, 4, 5])]),
  (76, [(5, [0, 2, 3, 11, 12])])]
def ksOf : List (Nat × Ks) → Nat → Ks
  | [], _ => []
  | (i, k) :: r, f => match Nat.beq i f with
    | true => k
    | false => ksOf r f
def isIn : List Nat → Nat → Bool
  | [], _ => false
  | i :: r, f => match Nat.beq i f with
    | true => true
    | false => isIn r f
def hint : Hint := { keep := isIn [], ks := ksOf ksT, own := isIn [75, 41, 52, 46, 34, 65], intr := intrAt [(62, iIndexByte)] }
def D : DefO := dfr0 Try.prog hint
def E : CallO := EV Try.prog hint D
end
end Go.Proofs.Ytjnnegacjmcdbaa
end

