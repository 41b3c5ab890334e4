/- Hint: a part of the proof that each law of this seat answers true at every input. No condition. -/
import Derived.Test.YthcjjicplodhjaaDoorEvG
import Derived.Test.YthcjjicplodhjaaDoorProg
set_option linter.unusedVariables false
set_option linter.unusedSimpArgs false
set_option maxRecDepth 20000
section
/- The hints of the evaluator for this program, and what it says of calls. -/
namespace Go.Proofs.YthcjjicplodhjaaDoor
open Go Go.Ev
set_option linter.unusedVariables false
noncomputable section

def n_main_main : FuncId := 0
def n_gosem_cut : FuncId := 1
def n_gosem_cut_init : FuncId := 2
def n_law04_TellerAny : FuncId := 3
def n_law04_TellerMade : FuncId := 4
def n_law04_TellerDeep : FuncId := 5
def n_law04_TellerBack : FuncId := 6
def n_law04_TellerNames : FuncId := 7
def n_law04_TellerRepeats : FuncId := 8
def n_law04_awake : FuncId := 9
def n_law04_Weight : FuncId := 10
def n_law04_same : FuncId := 11
def n_law04_Made : FuncId := 12
def n_teller_Tell : FuncId := 13
def n_ref03_Read : FuncId := 14
def n_ref03_SameLines : FuncId := 15
def n_law03_Pieces : FuncId := 16
def n_teller_Name : FuncId := 17
def n_ref04_Name : FuncId := 18
def n_teller_Right : FuncId := 19
def n_law04_weight : FuncId := 20
def n_ref04_Tell : FuncId := 21
def n_ref04_Right : FuncId := 22
def n_law04_picker_pick : FuncId := 23
def n_law04_picker_expr : FuncId := 24
def n_strings_Builder_WriteString : FuncId := 25
def n_teller_text : FuncId := 26
def n_strings_Builder_String : FuncId := 27
def n_ref03_blank : FuncId := 28
def n_ref03_reader_at : FuncId := 29
def n_ref03_reader_ends : FuncId := 30
def n_ref03_reader_rule : FuncId := 31
def n_ref03_reader_fail : FuncId := 32
def n_ref03_Same : FuncId := 33
def n_strings_IndexByte : FuncId := 34
def n_teller_plain : FuncId := 35
def n_ref04_letter : FuncId := 36
def n_ref04_digit : FuncId := 37
def n_teller_within : FuncId := 38
def n_ref04_Text : FuncId := 39
def n_ref04_fold : FuncId := 40
def n_ref04_nums : FuncId := 41
def n_strings_Builder_copyCheck : FuncId := 42
def n_strings_Join : FuncId := 43
def n_teller_texts : FuncId := 44
def n_teller_often : FuncId := 45
def n_teller_numbers : FuncId := 46
def n_ref03_reader_name : FuncId := 47
def n_ref03_reader_skip : FuncId := 48
def n_ref03_reader_alt : FuncId := 49
def n_internal_stringslite_IndexByte : FuncId := 50
def n_teller_own : FuncId := 51
def n_slices_ContainsFunc_api_Expr_api_Expr : FuncId := 52
def n_teller_within_1 : FuncId := 53
def n_ref04_inner : FuncId := 54
def n_ref04_Digits : FuncId := 55
def n_ref04_hex : FuncId := 56
def n_internal_abi_NoEscape : FuncId := 57
def n_strings_Builder_Grow : FuncId := 58
def n_teller_each_api_Expr : FuncId := 59
def n_teller_texts_1 : FuncId := 60
def n_slices_Contains_int_int : FuncId := 61
def n_strconv_Itoa : FuncId := 62
def n_teller_each_int : FuncId := 63
def n_teller_digits : FuncId := 64
def n_ref03_alpha : FuncId := 65
def n_ref03_digit : FuncId := 66
def n_ref03_lower : FuncId := 67
def n_ref03_reader_seq : FuncId := 68
def n_internal_bytealg_IndexByteString : FuncId := 69
def n_teller_own_1 : FuncId := 70
def n_teller_folded : FuncId := 71
def n_slices_ContainsFunc_int_int : FuncId := 72
def n_slices_IndexFunc_api_Expr_api_Expr : FuncId := 73
def n_strings_Builder_grow : FuncId := 74
def n_slices_Index_int_int : FuncId := 75
def n_internal_strconv_Itoa : FuncId := 76
def n_strings_ToUpper : FuncId := 77
def n_strconv_FormatInt : FuncId := 78
def n_ref03_reader_repeat : FuncId := 79
def n_ref03_reader_begins : FuncId := 80
def n_slices_IndexFunc_int_int : FuncId := 81
def n_internal_bytealg_MakeNoZero : FuncId := 82
def n_internal_strconv_FormatInt : FuncId := 83
def n_strings_Builder_WriteByte : FuncId := 84
def n_strings_Map : FuncId := 85
def n_unicode_ToUpper : FuncId := 86
def n_ref03_reader_number : FuncId := 87
def n_ref03_reader_element : FuncId := 88
def n_internal_strconv_small : FuncId := 89
def n_internal_strconv_numDigits : FuncId := 90
def n_internal_strconv_formatBase10 : FuncId := 91
def n_internal_strconv_formatBits : FuncId := 92
def n_unicode_utf8_DecodeRuneInString : FuncId := 93
def n_unicode_utf8_RuneLen : FuncId := 94
def n_strings_Builder_WriteRune : FuncId := 95
def n_strings_Builder_Cap : FuncId := 96
def n_unicode_To : FuncId := 97
def n_ref03_reader_group : FuncId := 98
def n_ref03_reader_text : FuncId := 99
def n_ref03_reader_value : FuncId := 100
def n_internal_strconv_log10Pow2 : FuncId := 101
def n_math_bits_Len64 : FuncId := 102
def n_internal_strconv_bool2_int : FuncId := 103
def n_internal_strconv_isPowerOfTwo : FuncId := 104
def n_math_bits_TrailingZeros : FuncId := 105
def n_unicode_utf8_decodeRuneInStringSlow : FuncId := 106
def n_unicode_utf8_AppendRune : FuncId := 107
def n_unicode_to : FuncId := 108
def n_ref03_reader_quoted : FuncId := 109
def n_ref03_reader_need : FuncId := 110
def n_math_bits_TrailingZeros32 : FuncId := 111
def n_math_bits_TrailingZeros64 : FuncId := 112
def n_unicode_utf8_appendRuneNonASCII : FuncId := 113
def n_unicode_lookupCaseRange : FuncId := 114
def n_unicode_convertCase : FuncId := 115
def n_runtime_boundsError_Error : FuncId := 116
def n_runtime_boundsError_RuntimeError : FuncId := 117
def n_runtime_errorString_Error : FuncId := 118
def n_runtime_errorString_RuntimeError : FuncId := 119
def n_runtime_plainError_Error : FuncId := 120
def n_runtime_plainError_RuntimeError : FuncId := 121
def n_runtime_errorAddressString_Error : FuncId := 122
def n_runtime_errorAddressString_RuntimeError : FuncId := 123
def n_runtime_TypeAssertionError_Error : FuncId := 124
def n_runtime_TypeAssertionError_RuntimeError : FuncId := 125
def n_runtime_PanicNilError_Error : FuncId := 126
def n_runtime_PanicNilError_RuntimeError : FuncId := 127
def n_internal_abi_Type_Align : FuncId := 128
def n_internal_runtime_maps_unhashableTypeError_Error : FuncId := 129
def n_internal_runtime_maps_unhashableTypeError_RuntimeError : FuncId := 130
def n_strings_Builder_Reset : FuncId := 131
def n_internal_abi_Kind_String : FuncId := 132
def n_gosem_cut_vars : FuncId := 141
def ty_func : TypeId := 1
def ty_int64 : TypeId := 2
def ty_int : TypeId := 3
def ty_bool : TypeId := 4
def ty_uint8 : TypeId := 5
def ty_abi_BoundsErrorCode : TypeId := 6
def ty_struct_x_int64_y_int_signed_bool_code_abi_BoundsErrorCode : TypeId := 7
def ty_runtime_boundsError : TypeId := 8
def ty_string : TypeId := 9
def ty_runtime_errorString : TypeId := 10
def ty_runtime_plainError : TypeId := 11
def ty_uintptr : TypeId := 12
def ty_struct_msg_string_addr_uintptr : TypeId := 13
def ty_runtime_errorAddressString : TypeId := 14
def ty_runtime_TypeAssertionError : TypeId := 15
def ty_runtime_PanicNilError : TypeId := 16
def ty_abi_Type : TypeId := 17
def ty_struct_typ_abi_Type : TypeId := 18
def ty_maps_unhashableTypeError : TypeId := 19
def ty_interface : TypeId := 20
def ty_int32 : TypeId := 21
def ty__api_Line : TypeId := 22
def ty_func_bool : TypeId := 23
def ty_func_api_Line_int : TypeId := 24
def ty_func_api_Line_bool : TypeId := 25
def ty__uint8 : TypeId := 26
def ty_func_uint8_api_Line : TypeId := 27
def ty_api_Expr : TypeId := 28
def ty__int : TypeId := 29
def ty__api_Expr : TypeId := 30
def ty_struct_Kind_int_Text_string_N_int_Min_int_Max_int_Kids_api_Expr : TypeId := 31
def ty_struct_Name_string_More_bool_Expr_api_Expr : TypeId := 33
def ty_api_Line : TypeId := 34
def ty_func_uint8_uint8_int_bool : TypeId := 35
def ty_funcuint8_uint8_bool : TypeId := 36
def ty_api_Errno : TypeId := 37
def ty_string_api_Errno : TypeId := 38
def ty_func_api_Line_string_api_Errno : TypeId := 39
def ty__api_Line_api_Errno : TypeId := 40
def ty_funcstring_api_Line_api_Errno : TypeId := 41
def ty_func_api_Line_api_Line_bool : TypeId := 42
def ty_func_uint8_bool : TypeId := 43
def ty_func_uint8_string_string : TypeId := 44
def ty__string : TypeId := 45
def ty_funcstring_bool : TypeId := 46
def ty_funcstring_uint8_bool : TypeId := 47
def ty_funcint_int_int_int_bool : TypeId := 48
def ty_funcapi_Expr_bool : TypeId := 49
def ty_func_api_Expr_int : TypeId := 50
def ty_funcapi_Expr_int_bool : TypeId := 51
def ty_regletlaw04_picker : TypeId := 52
def ty_struct_L_uint8_At_int : TypeId := 53
def ty_funcint_int : TypeId := 55
def ty_funcint_api_Expr : TypeId := 56
def ty_strings_Builder : TypeId := 57
def ty_struct_addr_strings_Builder_buf_uint8 : TypeId := 58
def ty_interface_Error_string : TypeId := 60
def ty_error : TypeId := 61
def ty_int_error : TypeId := 62
def ty_funcstring_int_error : TypeId := 63
def ty_funcapi_Expr_string : TypeId := 64
def ty_func_string : TypeId := 65
def ty_regletref03_reader : TypeId := 66
def ty_struct_S_string_At_int_E_api_Errno : TypeId := 67
def ty_funcint_bool : TypeId := 69
def ty_func_int : TypeId := 70
def ty_func_api_Line : TypeId := 71
def ty_funcapi_Errno : TypeId := 72
def ty_funcapi_Expr_api_Expr_bool : TypeId := 73
def ty_funcstring_uint8_int : TypeId := 74
def ty_funcstring_string_bool : TypeId := 75
def ty_funcuint8_bool : TypeId := 76
def ty_func_int_int_int_bool : TypeId := 77
def ty_func_string_string_string : TypeId := 78
def ty_func_api_Expr_int_string : TypeId := 79
def ty_func_int_string_string : TypeId := 80
def ty_bool_int_int : TypeId := 82
def ty_funcapi_Expr_bool_int_int : TypeId := 83
def ty_func_api_Expr_funcapi_Expr_bool_bool : TypeId := 84
def ty_funcapi_Expr_bool_bool_bool_string : TypeId := 85
def ty_funcint_string : TypeId := 86
def ty_unsafe_Pointer : TypeId := 87
def ty_funcunsafe_Pointer_unsafe_Pointer : TypeId := 88
def ty_funcint : TypeId := 89
def ty_func_api_Expr_funcapi_Expr_string_string : TypeId := 90
def ty_func_int_int_bool : TypeId := 91
def ty_func_int_funcint_string_string : TypeId := 92
def ty_funcuint8_uint8 : TypeId := 93
def ty_func_int_funcint_bool_bool : TypeId := 94
def ty_func_api_Expr_funcapi_Expr_bool_int : TypeId := 95
def ty_func_int_int_int : TypeId := 96
def ty_funcstring_string : TypeId := 97
def ty_funcint64_int_string : TypeId := 98
def ty_func_int_funcint_bool_int : TypeId := 99
def ty_funcint_uint8 : TypeId := 100
def ty_funcuint8_error : TypeId := 101
def ty_funcfuncint32_int32_string_string : TypeId := 102
def ty_funcint32_int32 : TypeId := 103
def ty_funcint_int_int : TypeId := 104
def ty__24_uint8 : TypeId := 105
def ty_uint64 : TypeId := 106
def ty_funcuint64_int : TypeId := 107
def ty_func_uint8_uint64 : TypeId := 108
def ty__uint8_string : TypeId := 109
def ty_func_uint8_uint64_int_bool_bool_uint8_string : TypeId := 110
def ty_int32_int : TypeId := 111
def ty_funcstring_int32_int : TypeId := 112
def ty_funcint32_int : TypeId := 113
def ty_funcint32_int_error : TypeId := 114
def ty_funcint_int32_int32 : TypeId := 115
def ty_funcint_int_api_Expr : TypeId := 116
def ty_funcbool_api_Expr : TypeId := 117
def ty_func_api_Expr : TypeId := 118
def ty_funcbool_int : TypeId := 119
def ty__20_uint64 : TypeId := 120
def ty_uint32 : TypeId := 121
def ty__65_uint8 : TypeId := 122
def ty_uint : TypeId := 123
def ty_funcuint_int : TypeId := 124
def ty_func_uint8_int32_uint8 : TypeId := 125
def ty_int32_bool : TypeId := 126
def ty_funcint_int32_unicode_CaseRange_int32_bool : TypeId := 127
def ty__unicode_CaseRange : TypeId := 128
def ty_funcuint32_int : TypeId := 129
def ty__256_uint8 : TypeId := 130
def ty_struct_lo_uint8_hi_uint8 : TypeId := 131
def ty_utf8_acceptRange : TypeId := 132
def ty__16_utf8_acceptRange : TypeId := 133
def ty_unicode_CaseRange : TypeId := 134
def ty_funcint32_unicode_CaseRange_unicode_CaseRange : TypeId := 135
def ty_funcint_int32_unicode_CaseRange_int32 : TypeId := 136
def ty__32_uint8 : TypeId := 137
def ty__64_uint8 : TypeId := 138
def ty__3_int32 : TypeId := 139
def ty_unicode_d : TypeId := 140
def ty_struct_Lo_uint32_Hi_uint32_Delta_unicode_d : TypeId := 141
def ty_struct_interface_abi_Type_concrete_abi_Type_asserted_abi_Type_missingMethod_string : TypeId := 143
def ty__0_runtime_PanicNilError : TypeId := 145
def ty_struct_0_runtime_PanicNilError : TypeId := 146
def ty_abi_TFlag : TypeId := 148
def ty_abi_Kind : TypeId := 149
def ty_funcunsafe_Pointer_unsafe_Pointer_bool : TypeId := 150
def ty_abi_NameOff : TypeId := 151
def ty_abi_TypeOff : TypeId := 152
def ty_struct_Size_uintptr_PtrBytes_uintptr_Hash_uint32_TFlag_abi_TFlag_Align_uint8_FieldAlign_uint8_Kind_abi_Kind_Equal_funcunsafe_Pointer_unsafe_Pointer_bool_GCData_uint8_Str_abi_NameOff_PtrToThis_abi_TypeOff : TypeId := 153

def ksT : List (Nat × Ks) := [(4, [(21, [7])]),
  (5, [(3, [0, 1, 5, 6]), (4, [0, 1, 5, 6])]),
  (10, [(3, [0, 3, 4])]),
  (11, [(4, [0, 3, 4, 5, 6, 7])]),
  (12, [(4, [3, 4, 5])]),
  (13, [(3, [4, 8, 9, 10]), (10, [4, 6, 7, 8, 9, 10]), (11, [4, 8, 9, 10])]),
  (14, [(5, [0, 4, 5]), (7, [0, 4, 5, 6])]),
  (15, [(4, [0, 1, 5])]),
  (16, [(3, [0, 1, 5, 6])]),
  (18, [(4, [0, 3])]),
  (20, [(3, [0, 3, 4])]),
  (21, [(3, [0, 4, 5]), (10, [0, 4, 5, 6]), (4, [0, 4, 5])]),
  (22, [(2, [1, 2, 5]), (25, [])]),
  (24, [(4, [0, 1, 4, 5]), (18, [0, 1, 4, 8, 9])]),
  (30, [(4, [0, 3]), (6, [0, 3])]),
  (31, [(5, [0, 2, 3]), (9, [0, 2, 3]), (15, [0, 2, 3, 4])]),
  (33, [(4, [2, 3, 5]), (9, [2, 3, 6])]),
  (35, [(2, [0, 1, 7, 8])]),
  (39, [(6, [1, 3, 4]), (10, [1, 3, 4]), (12, [1, 3, 4]), (7, [1, 3, 4]), (19, [1, 3]), (23, [1, 3]), (25, [1, 3]), (30, [1]), (32, [1, 3, 5]), (36, [1, 3, 5]), (38, [1, 3, 5]), (33, [1, 3, 5])]),
  (40, [(2, [0, 3])]),
  (41, [(2, [0, 1, 2, 7])]),
  (43, [(10, [0, 1, 5]), (11, [0, 1, 5]), (12, [0, 1, 5, 39, 40, 41]), (16, [0, 1, 5, 7, 39, 40, 41]), (17, [0, 1, 5, 39, 40, 41]), (22, [1, 8, 63, 64, 65])]),
  (45, [(6, [1, 3]), (10, [3])]),
  (47, [(3, [0, 3, 4]), (9, [0, 3]), (11, [3])]),
  (48, [(2, [0, 3])]),
  (49, [(2, [0, 1, 4, 5]), (10, [4, 5])]),
  (51, [(19, [2, 3, 4, 6])]),
  (58, [(3, [0, 1])]),
  (59, [(3, [1, 5, 11, 12, 13])]),
  (63, [(3, [1, 5, 11, 12, 13])]),
  (68, [(2, [0, 1, 4, 5]), (7, [4, 5])]),
  (71, [(2, [0, 6, 7])]),
  (73, [(2, [0, 1, 7, 8])]),
  (75, [(2, [0, 1, 7, 8])]),
  (77, [(3, [0, 3, 4, 5]), (9, [0, 3, 4]), (16, [0, 7, 8, 9]), (23, [0, 7, 9, 10]), (17, [0, 7, 8, 9]), (27, [7])]),
  (79, [(7, [0, 1, 4, 5, 6, 7]), (13, [4, 5, 6, 8])]),
  (81, [(2, [0, 1, 7, 8])]),
  (83, [(8, [0, 5, 6])]),
  (85, [(3, [0, 1, 5, 14]), (12, [0, 1, 5, 6, 8, 9]), (16, [0, 1, 5, 6, 9]), (17, [0, 1, 5]), (20, [0, 5, 68])]),
  (86, [(4, [0])]),
  (87, [(2, [0, 1, 2, 7]), (9, [0, 1, 2, 7, 9]), (14, [0, 1, 2, 7])]),
  (91, [(1, [0, 1, 4]), (20, [0, 4, 12]), (25, [0, 4, 12])]),
  (92, [(3, [0, 1, 2, 3, 4, 10, 11]), (7, [0, 1, 2, 3, 4, 10, 11, 12, 13]), (11, [0, 1, 3, 4, 10, 11, 12, 13, 14, 15, 16]), (18, [0, 1, 3, 4, 10, 11, 12, 13, 17]), (25, [0, 3, 4, 10, 11, 12, 13]), (28, [0, 4, 10, 11, 12, 13])]),
  (98, [(4, [0, 1, 2, 6]), (9, [0, 6, 7])]),
  (99, [(4, [1, 4, 5, 6, 7]), (10, [4, 5, 6, 8]), (13, [4, 6])]),
  (100, [(5, [0, 2, 3]), (18, [0, 2, 4]), (27, [0, 2, 4, 5]), (32, [2, 5])]),
  (102, [(4, [0, 2]), (7, [0, 2]), (10, [0, 2])]),
  (109, [(3, [0, 3]), (8, [0, 3])]),
  (110, [(4, [5])]),
  (114, [(3, [0, 1, 5, 6])])]
def ksOf : List (Nat × Ks) → Nat → Ks
  | [], _ => []
  | (i, k) :: r, f => match Nat.beq i f with
    | true => k
    | false => ksOf r f
def isIn : List Nat → Nat → Bool
  | [], _ => false
  | i :: r, f => match Nat.beq i f with
    | true => true
    | false => isIn r f
def orcT : List (Nat × (CallO → List V → Heap → Option (Out × Heap))) := [(13, oTell 17 19 26)]
theorem orcT_fine : ∀ p ∈ orcT, FineG p.2 := orcs_cons (oTell_fine 17 19 26) (orcs_nil)
def hint : Hint := { keep := isIn [], ks := ksOf ksT, own := isIn [68, 49, 100], intr := intrAt [(34, iIndexByte), (62, iRd gItoa), (77, iRd gUpper), (43, iRd gJoin), (112, iRd gTZ)], orc := orcAt orcT, fine := orc_fine orcT_fine, nrm := isIn [19] }
def D : DefO := dfr0 Tryd.prog hint
def E : CallO := EV Tryd.prog hint D
end
end Go.Proofs.YthcjjicplodhjaaDoor
end

