/- Ca: a part of the proof that each law of this seat answers true at every input. No condition. -/
import Derived.Test.YtjnnegacjmcdbaaEnc
import Derived.Test.YtjnnegacjmcdbaaFn1
import Derived.Test.YtjnnegacjmcdbaaFn2
import Derived.Test.YtjnnegacjmcdbaaFn3
import Derived.Test.YtjnnegacjmcdbaaFn4
set_option linter.unusedVariables false
set_option linter.unusedSimpArgs false
set_option maxRecDepth 20000
section
/- What the program's reader does, function by function: the small ones. -/
namespace Go.Proofs.Ytjnnegacjmcdbaa
open Go Go.Ev
set_option linter.unusedVariables false
set_option linter.unusedSimpArgs false

theorem ret_bool_eq {a b : Bool} {H : Heap} (h : a = b) : some (Out.ret (V.bool a), H) = some (Out.ret (V.bool b), H) := by rw [h]
theorem u8_lt (c : UInt8) : c.toNat < 256 := c.toNat_lt

theorem c_reader_isBlank (c : UInt8) (H : Heap) : E n_reader_isBlank [.int .u8 c.toNat] H = some (.ret (.bool (Rd.isBlank c)), H) := by
  rw [reader_isBlank_E, reader_isBlank_eq]
  cases h1 : decide ((c.toNat : Int) = 32) <;> cases h2 : decide ((c.toNat : Int) = 9) <;> simp (maxDischargeDepth := 9) only [bnd_some, gua_yes, gua_tf, oMove_v, oPick_t, oPick_f, oBin_eql, htrunc_self, rt_bool, h1, h2] <;> (refine ret_bool_eq ?_; simp [Rd.isBlank] at * <;> omega)
theorem c_reader_isDigit (c : UInt8) (H : Heap) : E n_reader_isDigit [.int .u8 c.toNat] H = some (.ret (.bool (Rd.isDigit c)), H) := by
  rw [reader_isDigit_E, reader_isDigit_eq]
  cases h1 : decide ((48 : Int) ≤ (c.toNat : Int)) <;> cases h2 : decide ((c.toNat : Int) ≤ 57) <;> simp (maxDischargeDepth := 9) only [bnd_some, gua_yes, gua_ft, oMove_v, oPick_t, oPick_f, oBin_leq, oBin_geq, htrunc_self, rt_bool, h1, h2] <;> (refine ret_bool_eq ?_; simp [Rd.isDigit] at * <;> omega)
theorem c_reader_isLetter (c : UInt8) (H : Heap) : E n_reader_isLetter [.int .u8 c.toNat] H = some (.ret (.bool (Rd.isLetter c)), H) := by
  rw [reader_isLetter_E, reader_isLetter_eq]
  cases h1 : decide ((97 : Int) ≤ (c.toNat : Int)) <;> cases h2 : decide ((c.toNat : Int) ≤ 122) <;> cases h3 : decide ((65 : Int) ≤ (c.toNat : Int)) <;> cases h4 : decide ((c.toNat : Int) ≤ 90) <;> simp (maxDischargeDepth := 9) only [bnd_some, gua_yes, gua_tf, gua_ft, gua_tup, oMove_v, oPick_t, oPick_f, oBin_leq, oBin_geq, htrunc_self, rt_bool, h1, h2, h3, h4] <;> (refine ret_bool_eq ?_; simp [Rd.isLetter] at * <;> omega)

theorem c_reader_is {p : Nat} {s : List UInt8} {H : Heap} (hs : hget H p = some (.var [.str s])) (c : Nat) : E n_reader_reader_is [.ptr p 0 0, .int .u8 c] H = some (.ret (.bool (Rd.headIs s c)), H) := by
  rw [reader_reader_is_E, reader_reader_is_eq]
  cases s with
  | nil => simp (maxDischargeDepth := 9) only [bnd_some, gua_ft, oMove_v, oPick_f, oNil_ptr, oFieldPtr_ptr, oBin_sneq, htrunc_self, loadB_var, takeCells_1, rt_bool, decide_true, Bool.not_true, List.drop_zero, Nat.add_zero, oLoad_ptr, hs]; rfl
  | cons a s => cases h : decide ((a.toNat : Int) = c) <;> simp (maxDischargeDepth := 9) only [bnd_some, gua_yes, oMove_v, oPick_t, oNil_ptr, oFieldPtr_ptr, oBin_eql, oBin_sneq, htrunc_self, loadB_var, takeCells_1, rt_bool, oIndexStr_0, decide_false, Bool.not_false, List.drop_zero, Nat.add_zero, reduceCtorEq, oLoad_ptr, hs, h] <;> (refine ret_bool_eq ?_; simp [Rd.headIs] at * <;> omega)

theorem c_reader_cut {p : Nat} {s : List UInt8} {H : Heap} (hs : hget H p = some (.var [.str s])) (n : Nat) (hn : n ≤ s.length) :
    E n_reader_reader_cut [.ptr p 0 0, .int .i64 n] H = some (.ret (.str (s.take n)), hset H p (.var [.str (s.drop n)])) := by
  rw [reader_reader_cut_E, reader_reader_cut_eq]
  have hp := hget_lt hs
  simp (maxDischargeDepth := 9) only [bnd_some, beff_some, oNil_ptr, oFieldPtr_ptr, loadB_var, takeCells_1, rt_str, cells_str, scalL_nil, scalL_cons, scal_str, mr_str, storeB_var, splice_zero, htrunc_hset, if_true, List.drop_zero, List.drop_succ_cons, List.length_cons, List.length_nil, Nat.add_zero, Nat.zero_add, Bool.and_true, List.append_nil, Int.toNat_natCast, oLoad_ptr, oStore_ptr, List.drop_nil, le_s, Nat.le_refl, Nat.zero_le, or_true, and_self, hs, oSliceStr_to (k := .i64) (Int.natCast_nonneg n) (Int.ofNat_le.2 hn), oSliceStr_from (k := .i64) (Int.natCast_nonneg n) (Int.ofNat_le.2 hn)]
theorem c_reader_take {p : Nat} {s : List UInt8} {H : Heap} (hs : hget H p = some (.var [.str s])) (c : Nat) :
    E n_reader_reader_take [.ptr p 0 0, .int .u8 c] H = some (.ret (.bool (Rd.headIs s c)), if Rd.headIs s c then hset H p (.var [.str (s.drop 1)]) else H) := by
  rw [reader_reader_take_E, reader_reader_take_eq]
  have hp := hget_lt hs
  cases hc : Rd.headIs s c with
  | false => simp (maxDischargeDepth := 9) only [bcall_ret, cnd_false, htrunc_self, rt_bool, if_false, Bool.false_eq_true, c_reader_is hs, hc, reader_reader_take_j1_eq]
  | true =>
    have h1 : 1 ≤ s.length := by cases s with | nil => simp [Rd.headIs] at hc | cons a s => simp
    have := c_reader_cut hs 1 h1
    simp only [cast_lit] at this
    simp (maxDischargeDepth := 9) only [bcall_ret, cnd_true, htrunc_self, rt_bool, htrunc_hset, if_true, c_reader_is hs, hc, reader_reader_take_j1_eq, this]

theorem c_reader_fail (e : Int) (H : Heap) : E n_reader_fail [.int .i64 e] H = some (.pan (.iface ty_api_Errno (.int .i64 e)), H) := by
  rw [reader_fail_E, reader_fail_eq]
  simp (maxDischargeDepth := 9) only [bnd_some, oIface_v, oPanic_iface, htrunc_self, pn_int]
theorem c_reader_want (b : Bool) (e : Int) (H : Heap) : E n_reader_want [.bool b, .int .i64 e] H = some (if b then .ret (.tup []) else .pan (.iface ty_api_Errno (.int .i64 e)), H) := by
  rw [reader_want_E, reader_want_eq]
  cases b <;> simp (maxDischargeDepth := 9) only [bnd_some, bcall_pan, cnd_true, cnd_false, oUn_not, htrunc_self, rt_tup0, pn_int, Bool.not_true, Bool.not_false, if_true, if_false, Bool.false_eq_true, c_reader_fail]

theorem c_reader_end_1 (c : UInt8) (H : Heap) : E n_reader_reader_end_1 [.int .u8 c.toNat] H = some (.ret (.bool (Rd.isCom c)), H) := by
  rw [reader_reader_end_1_E, reader_reader_end_1_eq]
  unfold Rd.isCom
  cases h0 : Rd.isBlank c with
  | true => simp (maxDischargeDepth := 9) only [bnd_some, bcall_ret, gua_tf, gua_tup, oMove_v, oPick_t, htrunc_self, rt_bool, Bool.true_or, c_reader_isBlank, h0]
  | false => cases h1 : decide ((32 : Int) < (c.toNat : Int)) <;> cases h2 : decide ((c.toNat : Int) ≤ 126) <;> simp (maxDischargeDepth := 9) only [bnd_some, bcall_ret, gua_yes, gua_ft, oMove_v, oPick_t, oPick_f, oBin_leq, oBin_gtr, htrunc_self, rt_bool, Bool.false_or, c_reader_isBlank, h0, h1, h2] <;> (refine ret_bool_eq ?_; simp at * <;> omega)
theorem c_reader_name_1 (c : UInt8) (H : Heap) : E n_reader_reader_name_1 [.int .u8 c.toNat] H = some (.ret (.bool (Rd.isName c)), H) := by
  rw [reader_reader_name_1_E, reader_reader_name_1_eq]
  unfold Rd.isName
  cases h0 : Rd.isLetter c with
  | true => simp (maxDischargeDepth := 9) only [bnd_some, bcall_ret, gua_tf, oMove_v, oPick_t, htrunc_self, rt_bool, Bool.true_or, c_reader_isLetter, h0]
  | false =>
    cases h1 : Rd.isDigit c with
    | true => simp (maxDischargeDepth := 9) only [bnd_some, bcall_ret, gua_yes, gua_tf, oMove_v, oPick_t, oPick_f, htrunc_self, rt_bool, Bool.or_true, Bool.true_or, c_reader_isLetter, c_reader_isDigit, h0, h1]
    | false => cases h2 : decide ((c.toNat : Int) = 45) <;> simp (maxDischargeDepth := 9) only [bnd_some, bcall_ret, gua_yes, oMove_v, oPick_f, oBin_eql, htrunc_self, rt_bool, Bool.or_false, Bool.false_or, c_reader_isLetter, c_reader_isDigit, h0, h1, h2] <;> (refine ret_bool_eq ?_; simp at * <;> omega)
theorem c_reader_quoted_1 (c : UInt8) (H : Heap) : E n_reader_reader_quoted_1 [.int .u8 c.toNat] H = some (.ret (.bool (Rd.isQuot c)), H) := by
  rw [reader_reader_quoted_1_E, reader_reader_quoted_1_eq]
  unfold Rd.isQuot
  cases h1 : decide ((32 : Int) ≤ (c.toNat : Int)) <;> cases h2 : decide ((c.toNat : Int) ≤ 126) <;> cases h3 : decide ((c.toNat : Int) = 34) <;> simp (maxDischargeDepth := 9) only [bnd_some, gua_yes, gua_ft, oMove_v, oPick_t, oPick_f, oBin_neq, oBin_leq, oBin_geq, htrunc_self, rt_bool, Bool.not_true, Bool.not_false, h1, h2, h3] <;> (refine ret_bool_eq ?_; simp at * <;> omega)

theorem drop_cons {s : List UInt8} {i : Nat} {c : UInt8} {r : List UInt8} (h : s.drop i = c :: r) : s[i]? = some c ∧ s.drop (i + 1) = r ∧ i < s.length := by
  have h1 : s[i]? = some c := by
    have := congrArg (fun l : List UInt8 => l[0]?) h
    simpa using this
  refine ⟨h1, ?_, ?_⟩
  · rw [← List.tail_drop, h]; rfl
  · have := congrArg List.length h
    simp at this; omega

theorem c_reader_run_l {s : List UInt8} {f : FuncId} {cap : List V} {H : Heap} {q : UInt8 → Bool} (base : Nat) (hq : ∀ c : UInt8, E f (.int .u8 c.toNat :: cap) H = some (.ret (.bool (q c)), H)) (hl : s.length < 4611686018427387904) :
    ∀ (r : List UInt8) (i : Nat), s.drop i = r → i ≤ s.length → reader_run_l1 base (.str s) (.fn f cap) (.int .i64 s.length) (.int .i64 i) H = rt false base (.int .i64 (i + (r.takeWhile q).length : Nat)) H
  | [], i, hd, hi => by
    have : s.length ≤ i := by simpa using hd
    obtain rfl : i = s.length := by omega
    rw [reader_run_l1_eq]
    have h1 : ¬ ((s.length : Int) < (s.length : Int)) := by omega
    simp (maxDischargeDepth := 9) only [bnd_some, cnd_false, oDyn_fn, oLenStr_str, oBin_add, oBin_lss, rt_int, decide_false, List.length_nil, Nat.add_zero, List.nil_append, List.cons_append, h1, List.takeWhile_nil]
  | c :: r, i, hd, hi => by
    obtain ⟨h1, h2, h3⟩ := drop_cons hd
    rw [reader_run_l1_eq]
    have h4 : (i : Int) < (s.length : Int) := by omega
    have h5 : oIndexStr (.str s) (.int .i64 i) = some (.int .u8 c.toNat) := oIndexStr_at (by omega) (by simpa using h1)
    cases hc : q c with
    | true =>
      have := c_reader_run_l base hq hl r (i + 1) h2 (by omega)
      simp (maxDischargeDepth := 9) only [bnd_some, bcall_ret, cnd_true, cnd_false, oDyn_fn, oUn_not, oLenStr_str, oBin_add, oBin_lss, rt_int, decide_true, Bool.not_true, if_true, List.length_cons, List.nil_append, List.cons_append, h4, h5, hq, hc, wrap_succ (show i < 4611686018427387904 by omega), this, List.takeWhile_cons]
      rw [show i + 1 + (List.takeWhile q r).length = i + ((List.takeWhile q r).length + 1) by omega]
    | false => simp (maxDischargeDepth := 9) only [bnd_some, bcall_ret, cnd_true, oDyn_fn, oUn_not, oLenStr_str, oBin_add, oBin_lss, rt_int, decide_true, Bool.not_false, if_false, List.length_nil, Nat.add_zero, Bool.false_eq_true, List.nil_append, List.cons_append, h4, h5, hq, hc, List.takeWhile_cons]
theorem c_reader_run {s : List UInt8} {f : FuncId} {cap : List V} {H : Heap} {q : UInt8 → Bool} (hq : ∀ c : UInt8, E f (.int .u8 c.toNat :: cap) H = some (.ret (.bool (q c)), H)) (hl : s.length < 4611686018427387904) :
    E n_reader_run [.str s, .fn f cap] H = some (.ret (.int .i64 (s.takeWhile q).length), H) := by
  rw [reader_run_E, reader_run_eq]
  have := c_reader_run_l H.length hq hl s 0 rfl (Nat.zero_le _)
  simp only [cast_lit] at this
  simp (maxDischargeDepth := 9) only [bnd_some, oLenStr_str, htrunc_self, rt_int, Nat.zero_add, this]
end Go.Proofs.Ytjnnegacjmcdbaa
end

section
/- What the program's reader does, function by function: lines' ends, names, numbers. -/
namespace Go.Proofs.Ytjnnegacjmcdbaa
open Go Go.Ev
set_option linter.unusedVariables false
set_option linter.unusedSimpArgs false

def hasPre (s t : List UInt8) : Bool := decide (t.length ≤ s.length) && decide (s.take t.length = t)
theorem c_stringslite_HasPrefix (s t : List UInt8) (H : Heap) : E n_internal_stringslite_HasPrefix [.str s, .str t] H = some (.ret (.bool (hasPre s t)), H) := by
  rw [internal_stringslite_HasPrefix_E, internal_stringslite_HasPrefix_eq]
  unfold hasPre
  by_cases h : t.length ≤ s.length
  · have h1 : (t.length : Int) ≤ (s.length : Int) := by omega
    simp (maxDischargeDepth := 9) only [bnd_some, gua_yes, oMove_v, oPick_t, oLenStr_str, oBin_geq, oBin_seql, htrunc_self, rt_bool, decide_true, Bool.true_and, Int.toNat_natCast, h, h1, oSliceStr_to (k := .i64) (Int.natCast_nonneg t.length) h1]
  · have h1 : ¬ (t.length : Int) ≤ (s.length : Int) := by omega
    simp (maxDischargeDepth := 9) only [bnd_some, gua_ft, oMove_v, oPick_f, oLenStr_str, oBin_geq, htrunc_self, rt_bool, decide_false, Bool.false_and, h, h1]
theorem c_strings_HasPrefix (s t : List UInt8) (H : Heap) : E n_strings_HasPrefix [.str s, .str t] H = some (.ret (.bool (hasPre s t)), H) := by
  rw [strings_HasPrefix_E, strings_HasPrefix_eq]
  simp (maxDischargeDepth := 9) only [bcall_ret, htrunc_self, rt_bool, c_stringslite_HasPrefix]

theorem c_reader_small_l {s : List UInt8} {H : Heap} (hl : s.length < 4611686018427387904) : ∀ (r a : List UInt8), a.length + r.length = s.length →
    reader_small_l1 H.length (.rs H.length 0 1 0 s.length) (.rs H.length 0 1 0 s.length) (.int .i64 s.length) (.int .i64 a.length) (.row 0 1 false (bytesV a ++ bytesV r) :: H) = some (.ret (.str (a ++ Rd.small r)), H)
  | [], a, h => by
    have h1 : ¬ (a.length : Int) < (s.length : Int) := by simp at h; omega
    rw [reader_small_l1_eq]
    have h2 : oText (.row 0 1 false (bytesV a) :: H) (.rs H.length 0 1 0 s.length) = some (.str a) := oText_row (ag := false) (by simp) (by simpa using h.symm)
    simp (maxDischargeDepth := 9) only [bnd_some, cnd_false, oMove_v, oBin_lss, htrunc_self, rt_str, htrunc_c, decide_false, List.append_nil, Nat.le_refl, h1, bytesV, h2, Rd.small, List.map_nil]
  | c :: r, a, h => by
    have h1 : (a.length : Int) < (s.length : Int) := by simp at h; omega
    have h2 : a.length < s.length := by omega
    have ih := c_reader_small_l (H := H) hl r (a ++ [Rd.smallB c]) (by simp at h ⊢; omega)
    simp only [bytesV_append, bytesV, List.append_assoc, List.cons_append, List.nil_append, List.length_append, List.length_cons, List.length_nil, Nat.zero_add] at ih
    have h3 : takeCells false 1 ((bytesV a ++ V.int .u8 c.toNat :: bytesV r).drop a.length) = some (.int .u8 c.toNat) := load_at rfl (by simp)
    rw [reader_small_l1_eq]
    have hc := c.toNat_lt
    cases h4 : decide ((65 : Int) ≤ c.toNat) <;> cases h5 : decide ((c.toNat : Int) ≤ 90)
    case true.true =>
      simp at h4 h5
      have e1 : IntKind.u8.wrap (IntKind.u8.wrap ((c.toNat : Int) + 97) - 65) = ((c.toNat + 32 : Nat) : Int) := by
        have w1 : IntKind.u8.wrap ((c.toNat : Int) + 97) = c.toNat + 97 := wrap_u8 (by omega) (by omega)
        rw [w1, wrap_u8 (by omega) (by omega)]; omega
      have e2 : ((Rd.smallB c).toNat : Int) = ((c.toNat + 32 : Nat) : Int) := by
        unfold Rd.smallB
        rw [if_pos ⟨by omega, by omega⟩]
        simp; omega
      rw [e2] at ih
      have h6 : splice (bytesV a ++ V.int .u8 c.toNat :: bytesV r) a.length [.int .u8 ((c.toNat + 32 : Nat) : Int)] = bytesV a ++ V.int .u8 ((c.toNat + 32 : Nat) : Int) :: bytesV r := splice_at (by simp)
      have h7 : a.length + 1 ≤ a.length + (r.length + 1) := by omega
      have g4 : (65 : Int) ≤ c.toNat := by omega
      have g5 : (c.toNat : Int) ≤ 90 := by omega
      simp (maxDischargeDepth := 9) only [bnd_some, beff_some, cnd_true, gua_yes, oMove_v, oPick_t, oBin_add, oBin_sub, oBin_lss, oBin_leq, oBin_geq, loadB_row, cells_int, scalL_nil, scalL_cons, scal_int, storeB_row, hget_at, hset_at, bytesV_len, decide_true, if_true, List.length_cons, List.length_nil, Nat.zero_add, Bool.and_true, oLoad_ptr, oStore_ptr, Nat.le_refl, true_or, and_true, and_self, h1, bytesV, oIndexPtr_rs h2, Nat.mul_one, h3, g4, g5, e1, h6, List.length_append, h7, reader_small_j2_eq, wrap_succ (show a.length < 4611686018427387904 by omega), ih, Rd.small, List.map_cons]
    all_goals
      have e2 : Rd.smallB c = c := by
        unfold Rd.smallB
        simp at h4 h5
        rw [if_neg (by omega)]
      rw [e2] at ih
      simp (maxDischargeDepth := 9) only [bnd_some, cnd_true, cnd_false, gua_yes, gua_ft, oMove_v, oPick_t, oPick_f, oBin_add, oBin_sub, oBin_lss, oBin_leq, oBin_geq, loadB_row, cells_int, scalL_nil, scalL_cons, scal_int, storeB_row, hget_at, hset_at, decide_true, List.length_cons, List.length_nil, Nat.zero_add, Bool.and_true, oLoad_ptr, oStore_ptr, Nat.le_refl, true_or, true_and, h1, bytesV, oIndexPtr_rs h2, Nat.mul_one, h3, h4, h5, reader_small_j2_eq, wrap_succ (show a.length < 4611686018427387904 by omega), ih, Rd.small, List.map_cons, e2]
theorem c_reader_small {s : List UInt8} {H : Heap} (hl : s.length < 4611686018427387904) : E n_reader_small [.str s] H = some (.ret (.str (Rd.small s)), H) := by
  rw [reader_small_E, reader_small_eq]
  have := c_reader_small_l (H := H) hl s [] (by simp)
  simp only [List.length_nil, bytesV, List.nil_append, cast_lit] at this
  simp (maxDischargeDepth := 9) only [bnd_some, beff_some, oLenSl_rs, oBytes_str, this]
end Go.Proofs.Ytjnnegacjmcdbaa
end

section
/- What the program's reader does, function by function: lines' ends, room, names, numbers. -/
namespace Go.Proofs.Ytjnnegacjmcdbaa
open Go Go.Ev
set_option linter.unusedVariables false
set_option linter.unusedSimpArgs false

def endI (s : List UInt8) : Int := match Rd.endN s with
  | some k => k
  | none => -1

def endJ (n : Nat) (r : List UInt8) : Int := match r with
  | [] => ((n - r.length : Nat) : Int)
  | a :: r' => if a.toNat = 10 then ((n - r.length + 1 : Nat) : Int) else if a.toNat = 13 ∧ Rd.headIs r' 10 = true then ((n - r.length + 2 : Nat) : Int) else -1

theorem hasPre_crlf (a : UInt8) (r : List UInt8) : hasPre (a :: r) [13, 10] = decide (a.toNat = 13 ∧ Rd.headIs r 10 = true) := by
  unfold hasPre
  have e13 : (a = 13) ↔ a.toNat = 13 := by rw [← UInt8.toNat_inj]; rfl
  cases r with
  | nil => simp [Rd.headIs]
  | cons b r =>
    have e10 : (b = 10) ↔ b.toNat = 10 := by rw [← UInt8.toNat_inj]; rfl
    simp [Rd.headIs, e13, e10]

theorem c_reader_end_j {p : Nat} {s r : List UInt8} {H : Heap} (hs : hget H p = some (.var [.str s])) (hr : r.length ≤ s.length) (hl : s.length < 4611686018427387904) :
    reader_reader_end_j1 H.length (.ptr p 0 0) (.str r) H = some (.ret (.int .i64 (endJ s.length r)), H) := by
  rw [reader_reader_end_j1_eq]
  have e0 : IntKind.i64.wrap ((s.length : Int) - (r.length : Int)) = ((s.length - r.length : Nat) : Int) := by rw [wrap_i64 (by omega) (by omega)]; omega
  have hp := hget_lt hs
  have e1 : IntKind.i64.wrap (((s.length - r.length : Nat) : Int) + 1) = ((s.length - r.length + 1 : Nat) : Int) := by rw [wrap_i64 (by omega) (by omega)]; omega
  have e2 : IntKind.i64.wrap (((s.length - r.length : Nat) : Int) + 2) = ((s.length - r.length + 2 : Nat) : Int) := by rw [wrap_i64 (by omega) (by omega)]; omega
  simp only [oNil_ptr, bnd_some, oFieldPtr_ptr, Nat.add_zero, oLoad_ptr, hs, loadB_var, List.drop_zero, takeCells_1, oLenStr_str, oBin_sub, e0, oBin_seql]
  unfold endJ
  generalize s.length - r.length = k at *
  cases r with
  | nil => simp (maxDischargeDepth := 9) only [cnd_true, htrunc_self, rt_int, decide_true]
  | cons a r' =>
    cases h1 : decide ((a.toNat : Int) = 10) with
    | true =>
      have h2 : a.toNat = 10 := by simp at h1; omega
      simp (maxDischargeDepth := 9) only [bnd_some, cnd_true, cnd_false, oBin_add, oBin_eql, htrunc_self, rt_int, oIndexStr_0, decide_false, reduceCtorEq, h1, e1]
      rw [if_pos h2]
    | false =>
      have h2 : ¬ a.toNat = 10 := by simp at h1; omega
      simp (maxDischargeDepth := 9) only [bnd_some, bcall_ret, cnd_false, oBin_add, oBin_eql, htrunc_self, rt_int, oIndexStr_0, decide_false, reduceCtorEq, h1, c_strings_HasPrefix, hasPre_crlf]
      rw [if_neg h2]
      by_cases h4 : a.toNat = 13 ∧ Rd.headIs r' 10 = true
      · rw [if_pos h4, decide_eq_true h4]; simp (maxDischargeDepth := 9) only [cnd_true, e2]
      · rw [if_neg h4, decide_eq_false h4]; simp (maxDischargeDepth := 9) only [cnd_false]

theorem dropWhile_le (q : UInt8 → Bool) (s : List UInt8) : (s.dropWhile q).length ≤ s.length := (List.dropWhile_sublist q).length_le
theorem drop_take_while (q : UInt8 → Bool) : ∀ s : List UInt8, s.drop (s.takeWhile q).length = s.dropWhile q
  | [] => rfl
  | c :: s => by
    rw [List.takeWhile_cons, List.dropWhile_cons]
    split
    · simpa using drop_take_while q s
    · rfl
theorem take_take_while (q : UInt8 → Bool) : ∀ s : List UInt8, s.take (s.takeWhile q).length = s.takeWhile q
  | [] => rfl
  | c :: s => by
    rw [List.takeWhile_cons]
    split
    · simpa using take_take_while q s
    · rfl
theorem takeWhile_le (q : UInt8 → Bool) (s : List UInt8) : (s.takeWhile q).length ≤ s.length := (List.takeWhile_sublist q).length_le

theorem endRest_le (s : List UInt8) : (Rd.endRest s).length ≤ s.length := by
  unfold Rd.endRest
  split
  · exact Nat.le_trans (dropWhile_le _ _) (by simp)
  · exact Nat.le_refl _
theorem endI_eq (s : List UInt8) : endI s = endJ s.length (Rd.endRest s) := by
  unfold endI Rd.endN endJ
  simp only
  generalize s.length - (Rd.endRest s).length = k
  cases Rd.endRest s with
  | nil => rfl
  | cons a r =>
    by_cases h1 : a.toNat = 10
    · simp [h1]
    · by_cases h2 : a.toNat = 13 ∧ Rd.headIs r 10 = true
      · simp only [if_neg h1, if_pos h2]
      · simp only [if_neg h1, if_neg h2]

theorem c_reader_end {p : Nat} {s : List UInt8} {H : Heap} (hs : hget H p = some (.var [.str s])) (hl : s.length < 4611686018427387904) : E n_reader_reader_end [.ptr p 0 0] H = some (.ret (.int .i64 (endI s)), H) := by
  rw [reader_reader_end_E, reader_reader_end_eq]
  have h0 := c_reader_is hs 59
  have hj := c_reader_end_j hs (endRest_le s) hl
  rw [← endI_eq] at hj
  cases hc : Rd.headIs s 59 with
  | true =>
    have h1 : 1 ≤ s.length := by cases s with | nil => simp [Rd.headIs] at hc | cons a s => simp
    have h2 := oSliceStr_from (s := s) (k := .i64) (n := 1) (by omega) (by omega)
    have h3 := c_reader_run (s := s.drop 1) (cap := []) (H := H) (fun c => c_reader_end_1 c H) (by simp; omega)
    have h4 := oSliceStr_from (s := s.drop 1) (k := .i64) (n := ((s.drop 1).takeWhile Rd.isCom).length) (by omega) (by have := takeWhile_le Rd.isCom (s.drop 1); omega)
    have e1 : Rd.endRest s = (s.drop 1).dropWhile Rd.isCom := by simp [Rd.endRest, hc]
    rw [e1] at hj
    simp only [Int.toNat_natCast, drop_take_while] at h4
    simp only [show ((59 : Nat) : Int) = 59 from rfl] at h0
    simp only [show Int.toNat 1 = 1 from rfl] at h2
    simp only [bnd_some, bcall_ret, cnd_true, oNil_ptr, oFieldPtr_ptr, Nat.add_zero, oLoad_ptr, hs, loadB_var, List.drop_zero, takeCells_1, h0, hc, h2, h3, h4, hj]
  | false =>
    have e1 : Rd.endRest s = s := by simp [Rd.endRest, hc]
    rw [e1] at hj
    simp only [show ((59 : Nat) : Int) = 59 from rfl] at h0
    simp (maxDischargeDepth := 9) only [bnd_some, bcall_ret, cnd_false, oNil_ptr, oFieldPtr_ptr, loadB_var, takeCells_1, List.drop_zero, Nat.add_zero, oLoad_ptr, hs, h0, hc, hj]
end Go.Proofs.Ytjnnegacjmcdbaa
end

section
/- What the program's reader does, function by function: room, names, numbers, texts in quotes. -/
namespace Go.Proofs.Ytjnnegacjmcdbaa
open Go Go.Ev
set_option linter.unusedVariables false
set_option linter.unusedSimpArgs false

/-- The reader's text. -/
abbrev RdAt (H : Heap) (p : Nat) (s : List UInt8) : Prop := hget H p = some (.var [.str s])
abbrev rdSet (H : Heap) (p : Nat) (s : List UInt8) : Heap := hset H p (.var [.str s])

theorem c_reader_room_l {p : Nat} {base : Nat} {fr : Int} : ∀ (n : Nat) {s : List UInt8} {H : Heap}, RdAt H p s → s.length ≤ n → s.length < 4611686018427387904 →
    reader_reader_room_l1 base (.ptr p 0 0) (.int .i64 fr) H = rt false base (.bool (decide (((Rd.roomN n s).length : Int) < fr))) (rdSet H p (Rd.roomN n s))
  | n, [], H, hs, hn, hl => by
    rw [reader_reader_room_l1_eq]
    have : Rd.roomN n [] = [] := by cases n <;> rfl
    rw [this]
    simp (maxDischargeDepth := 9) only [bnd_some, cnd_false, oMove_v, oNil_ptr, oFieldPtr_ptr, oLenStr_str, oBin_lss, oBin_sneq, loadB_var, takeCells_1, rt_bool, cast_lit, decide_true, Bool.not_true, List.drop_zero, List.length_nil, Nat.add_zero, oLoad_ptr, hs, reader_reader_room_j2_eq, rdSet, hset_self hs]
  | 0, c :: r, H, hs, hn, hl => by simp at hn
  | n + 1, c :: r, H, hs, hn, hl => by
    have hp := hget_lt hs
    have hc := c_reader_cut hs 1 (by simp)
    simp only [show ((1 : Nat) : Int) = 1 from rfl, List.drop_succ_cons, List.drop_zero, List.take_succ_cons, List.take_zero] at hc
    cases h1 : Rd.isBlank c with
    | true =>
      have ih := c_reader_room_l (base := base) (fr := fr) n (s := r) (H := rdSet H p r) (hget_s hp) (by simp at hn; omega) (by simp at hl; omega)
      have er : Rd.roomN (n + 1) (c :: r) = Rd.roomN n r := by simp [Rd.roomN, h1]
      simp only [rdSet, hset_s] at ih
      rw [er, reader_reader_room_l1_eq]
      simp (maxDischargeDepth := 9) only [bnd_some, bcall_ret, cnd_true, oMove_v, oNil_ptr, oFieldPtr_ptr, oBin_sneq, loadB_var, takeCells_1, rt_bool, oIndexStr_0, decide_false, Bool.not_false, List.drop_zero, Nat.add_zero, reduceCtorEq, oLoad_ptr, hs, c_reader_isBlank, h1, hc, ih]
    | false =>
      have he := c_reader_end hs hl
      have keep : reader_reader_room_j2 base (.ptr p 0 0) (.int .i64 fr) H = rt false base (.bool (decide (((r.length + 1 : Nat) : Int) < fr))) H := by
        rw [reader_reader_room_j2_eq]
        simp (maxDischargeDepth := 9) only [bnd_some, oNil_ptr, oFieldPtr_ptr, oLenStr_str, oBin_lss, loadB_var, takeCells_1, rt_bool, List.drop_zero, List.length_cons, Nat.add_zero, oLoad_ptr, hs]
      have stay : Rd.roomN (n + 1) (c :: r) = c :: r → (reader_reader_room_l1 base (.ptr p 0 0) (.int .i64 fr) H = reader_reader_room_j2 base (.ptr p 0 0) (.int .i64 fr) H) →
          reader_reader_room_l1 base (.ptr p 0 0) (.int .i64 fr) H = rt false base (.bool (decide (((Rd.roomN (n + 1) (c :: r)).length : Int) < fr))) (rdSet H p (Rd.roomN (n + 1) (c :: r))) := by
        intro e1 e2
        rw [e1, e2, keep, rdSet, hset_self hs]
        rfl
      cases h2 : Rd.endN (c :: r) with
      | none =>
        refine stay (by simp [Rd.roomN, h1, h2]) ?_
        have hi : endI (c :: r) = -1 := by simp [endI, h2]
        rw [hi] at he
        have h3 : (-1 : Int) ≤ 0 := by omega
        rw [reader_reader_room_l1_eq]
        simp (maxDischargeDepth := 9) only [bnd_some, bcall_ret, cnd_true, cnd_false, gua_tf, oMove_v, oPick_t, oNil_ptr, oFieldPtr_ptr, oBin_leq, oBin_sneq, loadB_var, takeCells_1, oIndexStr_0, decide_true, decide_false, Bool.not_false, List.drop_zero, Nat.add_zero, reduceCtorEq, oLoad_ptr, hs, c_reader_isBlank, h1, he, h3]
      | some k =>
        have hi : endI (c :: r) = k := by simp [endI, h2]
        rw [hi] at he
        by_cases hk : k = 0
        · refine stay (by simp [Rd.roomN, h1, h2, hk]) ?_
          have h3 : (k : Int) ≤ 0 := by omega
          rw [reader_reader_room_l1_eq]
          simp (maxDischargeDepth := 9) only [bnd_some, bcall_ret, cnd_true, cnd_false, gua_tf, oMove_v, oPick_t, oNil_ptr, oFieldPtr_ptr, oBin_leq, oBin_sneq, loadB_var, takeCells_1, oIndexStr_0, decide_true, decide_false, Bool.not_false, List.drop_zero, Nat.add_zero, reduceCtorEq, oLoad_ptr, hs, c_reader_isBlank, h1, he, h3]
        · have h3 : ¬ ((k : Int) ≤ 0) := by omega
          cases hd : (c :: r).drop k with
          | nil =>
            refine stay (by simp only [Rd.roomN, h1, h2, hd, if_neg hk]; rfl) ?_
            have h4 : (((r.length + 1 : Nat) : Int)) ≤ (k : Int) := by
              have := congrArg List.length hd
              simp at this; omega
            rw [reader_reader_room_l1_eq]
            simp (maxDischargeDepth := 9) only [bnd_some, bcall_ret, cnd_true, cnd_false, gua_yes, gua_tf, oMove_v, oPick_t, oPick_f, oNil_ptr, oFieldPtr_ptr, oLenStr_str, oBin_leq, oBin_geq, oBin_sneq, loadB_var, takeCells_1, oIndexStr_0, decide_true, decide_false, Bool.not_false, List.drop_zero, List.length_cons, Nat.add_zero, reduceCtorEq, oLoad_ptr, hs, c_reader_isBlank, h1, he, h3, h4]
          | cons d r' =>
            obtain ⟨g1, g2, g3⟩ := drop_cons hd
            have h4 : ¬ (((r.length + 1 : Nat) : Int)) ≤ (k : Int) := by simp at g3; omega
            have h5 : oIndexStr (.str (c :: r)) (.int .i64 k) = some (.int .u8 d.toNat) := oIndexStr_at (by omega) (by simpa using g1)
            cases h6 : Rd.isBlank d with
            | false =>
              refine stay (by simp only [Rd.roomN, h1, h2, hd, if_neg hk, h6]; rfl) ?_
              rw [reader_reader_room_l1_eq]
              simp (maxDischargeDepth := 9) only [bnd_some, bcall_ret, cnd_true, cnd_false, gua_yes, oMove_v, oPick_f, oNil_ptr, oFieldPtr_ptr, oUn_not, oLenStr_str, oBin_leq, oBin_geq, oBin_sneq, loadB_var, takeCells_1, oIndexStr_0, decide_false, Bool.not_false, List.drop_zero, List.length_cons, Nat.add_zero, reduceCtorEq, oLoad_ptr, hs, c_reader_isBlank, h1, he, h3, h4, h5, h6]
            | true =>
              have hc := c_reader_cut hs k (by simp at g3 ⊢; omega)
              rw [hd] at hc
              have hl2 := congrArg List.length hd
              have ih := c_reader_room_l (base := base) (fr := fr) n (s := d :: r') (H := rdSet H p (d :: r')) (hget_s hp) (by simp at hl2 hn ⊢; omega) (by simp at hl2 hl ⊢; omega)
              have er : Rd.roomN (n + 1) (c :: r) = Rd.roomN n (d :: r') := by simp only [Rd.roomN, h1, h2, hd, if_neg hk, h6]; rfl
              simp only [rdSet, hset_s] at ih
              rw [er, reader_reader_room_l1_eq]
              simp (maxDischargeDepth := 9) only [bnd_some, bcall_ret, cnd_true, cnd_false, gua_yes, oMove_v, oPick_f, oNil_ptr, oFieldPtr_ptr, oUn_not, oLenStr_str, oBin_leq, oBin_geq, oBin_sneq, loadB_var, takeCells_1, rt_bool, oIndexStr_0, decide_false, Bool.not_true, Bool.not_false, List.drop_zero, List.length_cons, Nat.add_zero, reduceCtorEq, oLoad_ptr, hs, c_reader_isBlank, h1, he, h3, h4, h5, h6, hc, ih]

theorem c_reader_room {p : Nat} {s : List UInt8} {H : Heap} (hs : RdAt H p s) (hl : s.length < 4611686018427387904) : E n_reader_reader_room [.ptr p 0 0] H = some (.ret (.bool (decide ((Rd.room s).length < s.length))), rdSet H p (Rd.room s)) := by
  rw [reader_reader_room_E, reader_reader_room_eq]
  have := c_reader_room_l (base := H.length) (fr := s.length) s.length hs (Nat.le_refl _) hl
  simp (maxDischargeDepth := 9) only [bnd_some, oNil_ptr, oFieldPtr_ptr, oLenStr_str, loadB_var, takeCells_1, rt_bool, htrunc_hset, List.drop_zero, Nat.add_zero, oLoad_ptr, hs, this, Rd.room, rdSet, Int.ofNat_lt]
  congr
end Go.Proofs.Ytjnnegacjmcdbaa
end

section
/- What the program's reader does, function by function: names, numbers, texts in quotes. -/
namespace Go.Proofs.Ytjnnegacjmcdbaa
open Go Go.Ev
set_option linter.unusedVariables false
set_option linter.unusedSimpArgs false

def errV (e : Int) : V := .iface ty_api_Errno (.int .i64 e)
/-- The answer, and the reader's text behind it. -/
def outR {α : Type} (p : Nat) (H : Heap) (f : α → V) : Rd.Res α → Option (Out × Heap)
  | .ok a s => some (.ret (f a), rdSet H p s)
  | .err e s => some (.pan (errV e), rdSet H p s)

theorem c_reader_name {p : Nat} {s : List UInt8} {H : Heap} (hs : RdAt H p s) (hl : s.length < 4611686018427387904) : E n_reader_reader_name [.ptr p 0 0] H = outR p H V.str (Rd.name s) := by
  rw [reader_reader_name_E, reader_reader_name_eq]
  have hp := hget_lt hs
  cases s with
  | nil => simp (maxDischargeDepth := 9) only [bnd_some, bcall_ret, bcall_pan, gua_ft, oMove_v, oPick_f, oNil_ptr, oFieldPtr_ptr, oBin_sneq, htrunc_self, loadB_var, takeCells_1, pn_int, decide_true, Bool.not_true, if_false, List.drop_zero, Nat.add_zero, Bool.false_eq_true, oLoad_ptr, hs, c_reader_want, Rd.name, outR, rdSet, hset_self hs, errV]
  | cons c r =>
    cases h1 : Rd.isLetter c with
    | false => simp (maxDischargeDepth := 9) only [bnd_some, bcall_ret, bcall_pan, gua_yes, oMove_v, oPick_t, oNil_ptr, oFieldPtr_ptr, oBin_sneq, htrunc_self, loadB_var, takeCells_1, pn_int, oIndexStr_0, decide_false, Bool.not_false, if_false, List.drop_zero, Nat.add_zero, reduceCtorEq, Bool.false_eq_true, oLoad_ptr, hs, c_reader_want, Rd.name, outR, rdSet, hset_self hs, errV, c_reader_isLetter, h1]
    | true =>
      have h2 := c_reader_run (s := c :: r) (cap := []) (H := H) (fun c => c_reader_name_1 c H) hl
      have h3 := c_reader_cut hs ((c :: r).takeWhile Rd.isName).length (takeWhile_le _ _)
      rw [drop_take_while, take_take_while] at h3
      have h4 : ((c :: r).takeWhile Rd.isName).length < 4611686018427387904 := Nat.lt_of_le_of_lt (takeWhile_le _ _) hl
      generalize ha : (c :: r).takeWhile Rd.isName = a at *
      generalize hb : (c :: r).dropWhile Rd.isName = b at *
      by_cases h5 : a.length ≤ 40
      · have h6 : (a.length : Int) ≤ 40 := by omega
        simp (maxDischargeDepth := 9) only [bnd_some, bcall_ret, gua_yes, oMove_v, oPick_t, oNil_ptr, oFieldPtr_ptr, oLenStr_str, oBin_leq, oBin_sneq, loadB_var, takeCells_1, rt_str, oIndexStr_0, htrunc_hset, decide_true, decide_false, Bool.not_false, if_true, List.drop_zero, Nat.add_zero, reduceCtorEq, oLoad_ptr, hs, c_reader_want, Rd.name, outR, rdSet, errV, c_reader_isLetter, h1, h2, h3, h5, h6, ha, hb, c_reader_small h4]
      · have h6 : ¬ (a.length : Int) ≤ 40 := by omega
        simp (maxDischargeDepth := 9) only [bnd_some, bcall_ret, bcall_pan, gua_yes, oMove_v, oPick_t, oNil_ptr, oFieldPtr_ptr, oLenStr_str, oBin_leq, oBin_sneq, loadB_var, takeCells_1, pn_int, oIndexStr_0, htrunc_hset, decide_false, Bool.not_false, if_true, if_false, List.drop_zero, Nat.add_zero, reduceCtorEq, Bool.false_eq_true, oLoad_ptr, hs, c_reader_want, Rd.name, outR, rdSet, errV, c_reader_isLetter, h1, h2, h3, h5, h6, ha, hb]

theorem or32_upper : ∀ n : Nat, n < 256 → 65 ≤ n → n ≤ 90 → n ||| 32 = n + 32 := by decide
theorem or32_lower : ∀ n : Nat, n < 256 → 97 ≤ n → n ≤ 122 → n ||| 32 = n := by decide
theorem or_u8 (n : Nat) (h : n < 256) : IntKind.u8.wrap ((BitVec.ofInt IntKind.u8.bits (n : Int) ||| BitVec.ofInt IntKind.u8.bits 32).toNat : Int) = ((n ||| 32 : Nat) : Int) := by
  have h1 : (BitVec.ofInt IntKind.u8.bits (n : Int) ||| BitVec.ofInt IntKind.u8.bits 32).toNat = n ||| 32 := by
    have e1 : BitVec.ofInt 8 (n : Int) = BitVec.ofNat 8 n := by
      apply BitVec.eq_of_toNat_eq; simp
    show (BitVec.ofInt 8 (n : Int) ||| BitVec.ofInt 8 32).toNat = n ||| 32
    rw [e1]
    simp [BitVec.toNat_or, Nat.mod_eq_of_lt h]
  rw [h1]
  have h2 : n ||| 32 < 256 := Nat.or_lt_two_pow (n := 8) h (by omega)
  exact wrap_u8 (by omega) (by omega)

theorem c_reader_digit (c : UInt8) (H : Heap) : E n_reader_digit [.int .u8 c.toNat] H = some (.ret (.int .i64 (Rd.digit c)), H) := by
  rw [reader_digit_E, reader_digit_eq]
  have hc := c.toNat_lt
  cases h1 : Rd.isDigit c with
  | true =>
    have h2 : 48 ≤ c.toNat ∧ c.toNat ≤ 57 := by simpa [Rd.isDigit] using h1
    have w : IntKind.u8.wrap ((c.toNat : Int) - 48) = ((c.toNat - 48 : Nat) : Int) := by rw [wrap_u8 (by omega) (by omega)]; omega
    have w2 : IntKind.i64.wrap ((c.toNat - 48 : Nat) : Int) = ((c.toNat - 48 : Nat) : Int) := wrap_i64 (by omega) (by omega)
    simp (maxDischargeDepth := 9) only [bnd_some, bcall_ret, cnd_true, oMove_v, oIntTo_int, oBin_add, oBin_sub, oBin_or, htrunc_self, rt_int, if_true, c_reader_isDigit, h1, w, w2, Rd.digit]
  | false =>
    cases h2 : Rd.isLetter c with
    | false =>
      have h3 : Rd.digit c = 99 := by
        simp [Rd.isLetter] at h2
        simp only [Rd.digit, h1]
        rw [if_neg (by simp), if_neg (by omega), if_neg (by omega)]
      simp (maxDischargeDepth := 9) only [bnd_some, bcall_ret, cnd_false, gua_ft, oMove_v, oPick_f, oIntTo_int, oBin_add, oBin_sub, oBin_or, htrunc_self, rt_int, cast_lit, c_reader_isDigit, c_reader_isLetter, h1, h2, h3]
    | true =>
      have h3 : (97 ≤ c.toNat ∧ c.toNat ≤ 122) ∨ (65 ≤ c.toNat ∧ c.toNat ≤ 90) := by simpa [Rd.isLetter] using h2
      have ho : c.toNat ||| 32 = if 97 ≤ c.toNat then c.toNat else c.toNat + 32 := by
        rcases h3 with h3 | h3
        · rw [or32_lower _ hc h3.1 h3.2, if_pos h3.1]
        · rw [or32_upper _ hc h3.1 h3.2, if_neg (by omega)]
      have hd : Rd.digit c = if (c.toNat ||| 32) ≤ 102 then (c.toNat ||| 32) - 87 else 99 := by
        rw [ho]
        simp only [Rd.digit, h1, Bool.false_eq_true, if_false]
        rcases h3 with h3 | h3
        · by_cases h4 : c.toNat ≤ 102
          · rw [if_pos ⟨h3.1, h4⟩, if_pos h3.1, if_pos h4]
          · rw [if_neg (by omega), if_neg (by omega), if_pos h3.1, if_neg h4]
        · rw [if_neg (by omega), if_neg (by omega : ¬ 97 ≤ c.toNat)]
          by_cases h4 : c.toNat ≤ 70
          · rw [if_pos ⟨h3.1, h4⟩, if_pos (by omega)]; omega
          · rw [if_neg (by omega), if_neg (by omega)]
      have hr : 97 ≤ c.toNat ||| 32 ∧ c.toNat ||| 32 ≤ 122 := by rw [ho]; split <;> omega
      have hw := or_u8 c.toNat hc
      rw [hd]
      generalize c.toNat ||| 32 = m at *
      by_cases h4 : m ≤ 102
      · have h5 : (m : Int) ≤ 102 := by omega
        have w1 : IntKind.i64.wrap (m : Int) = m := wrap_i64 (by omega) (by omega)
        have w2 : IntKind.i64.wrap ((m : Int) - 97) = ((m - 97 : Nat) : Int) := by rw [wrap_i64 (by omega) (by omega)]; omega
        have w3 : IntKind.i64.wrap (((m - 97 : Nat) : Int) + 10) = ((m - 87 : Nat) : Int) := by rw [wrap_i64 (by omega) (by omega)]; omega
        simp (maxDischargeDepth := 9) only [bnd_some, bcall_ret, cnd_true, cnd_false, gua_yes, oMove_v, oPick_t, oIntTo_int, oBin_add, oBin_sub, oBin_leq, oBin_or, htrunc_self, rt_int, decide_true, if_true, c_reader_isDigit, c_reader_isLetter, h1, h2, hw, h4, h5, w1, w2, w3]
      · have h5 : ¬ (m : Int) ≤ 102 := by omega
        simp (maxDischargeDepth := 9) only [bnd_some, bcall_ret, cnd_false, gua_yes, oMove_v, oPick_t, oIntTo_int, oBin_add, oBin_sub, oBin_leq, oBin_or, htrunc_self, rt_int, cast_lit, decide_false, if_false, c_reader_isDigit, c_reader_isLetter, h1, h2, hw, h4, h5]

/-- A number: the loop. -/
theorem c_reader_number_l {p base b most : Nat} (hb : b ≤ 100) (hm : most ≤ 10000000) : ∀ (s : List UInt8) {n : Nat} {ok : Bool} {H : Heap}, RdAt H p s → base = H.length → n ≤ most →
    reader_reader_number_l1 base (.ptr p 0 0) (.int .i64 b) (.int .i64 most) (.int .i64 n) (.bool ok) H = outR p H (fun r : Nat × Bool => .tup [.int .i64 r.1, .bool r.2]) (Rd.numberL b most n ok s)
  | [], n, ok, H, hs, hB, hn => by
    subst hB
    rw [reader_reader_number_l1_eq]
    simp (maxDischargeDepth := 9) only [bnd_some, bcall_ret, cnd_false, gua_ft, oMove_v, oPick_f, oNil_ptr, oFieldPtr_ptr, oBin_mul, oBin_sneq, htrunc_self, loadB_var, takeCells_1, mr_bool, mr_int, mr_tup, mrL_nil, mrL_cons, rt_tup, rtF_some, depth_eq, frz_bool, frz_int, frz_tup, mapO_nil, mapO_cons, decide_true, Bool.not_true, if_true, List.drop_zero, Nat.add_zero, Option.bind_some, Option.map_some, Nat.reduceAdd, oLoad_ptr, Nat.zero_le, Nat.max_self, hs, Rd.numberL, outR, rdSet, hset_self hs]
  | c :: r, n, ok, H, hs, hB, hn => by
    subst hB
    have hp := hget_lt hs
    rw [reader_reader_number_l1_eq, Rd.numberL]
    by_cases h1 : Rd.digit c < b
    · have h2 : (Rd.digit c : Int) < (b : Int) := by omega
      have hnb : n * b ≤ 10000000 * 100 := Nat.mul_le_mul (by omega) hb
      have w1 : IntKind.i64.wrap ((n : Int) * (b : Int)) = ((n * b : Nat) : Int) := by rw [← Int.natCast_mul]; exact wrap_i64 (by omega) (by omega)
      have w2 : IntKind.i64.wrap (((n * b : Nat) : Int) + (Rd.digit c : Int)) = ((n * b + Rd.digit c : Nat) : Int) := by rw [wrap_i64 (by omega) (by omega)]; omega
      rw [if_pos h1]
      by_cases h3 : n * b + Rd.digit c ≤ most
      · have h4 : ((n * b + Rd.digit c : Nat) : Int) ≤ (most : Int) := by omega
        have hc := c_reader_cut hs 1 (by simp)
        simp only [show ((1 : Nat) : Int) = 1 from rfl, List.drop_succ_cons, List.drop_zero, List.take_succ_cons, List.take_zero] at hc
        have ih := c_reader_number_l (p := p) (base := (rdSet H p r).length) hb hm r (n := n * b + Rd.digit c) (ok := true) (H := rdSet H p r) (hget_s hp) rfl h3
        have e : ∀ x : Rd.Res (Nat × Bool), outR p (rdSet H p r) (fun r : Nat × Bool => .tup [.int .i64 r.1, .bool r.2]) x = outR p H (fun r : Nat × Bool => .tup [.int .i64 r.1, .bool r.2]) x := by
          intro x; cases x <;> simp only [outR, rdSet, hset_s]
        rw [e] at ih
        simp only [rdSet, hset_length] at ih
        rw [if_pos h3]
        simp (maxDischargeDepth := 9) only [bnd_some, bcall_ret, cnd_true, gua_yes, oMove_v, oPick_t, oNil_ptr, oFieldPtr_ptr, oBin_add, oBin_mul, oBin_lss, oBin_leq, oBin_sneq, htrunc_self, loadB_var, takeCells_1, oIndexStr_0, mr_bool, mr_int, mr_tup, mrL_nil, mrL_cons, rt_tup, rtF_some, depth_eq, frz_bool, frz_int, frz_tup, mapO_nil, mapO_cons, decide_true, decide_false, Bool.not_false, if_true, List.drop_zero, Nat.add_zero, Option.bind_some, Option.map_some, reduceCtorEq, Nat.reduceAdd, oLoad_ptr, Nat.zero_le, Nat.max_self, hs, c_reader_digit, h2, w1, w2, h4, c_reader_want, hc, ih]
      · have h4 : ¬ ((n * b + Rd.digit c : Nat) : Int) ≤ (most : Int) := by omega
        rw [if_neg h3]
        simp (maxDischargeDepth := 9) only [bnd_some, bcall_ret, bcall_pan, cnd_true, gua_yes, oMove_v, oPick_t, oNil_ptr, oFieldPtr_ptr, oBin_add, oBin_mul, oBin_lss, oBin_leq, oBin_sneq, htrunc_self, loadB_var, takeCells_1, pn_int, oIndexStr_0, mr_bool, mr_int, mr_tup, mrL_nil, mrL_cons, rt_tup, rtF_some, depth_eq, frz_bool, frz_int, frz_tup, mapO_nil, mapO_cons, decide_true, decide_false, Bool.not_false, if_true, if_false, List.drop_zero, Nat.add_zero, Option.bind_some, Option.map_some, reduceCtorEq, Bool.false_eq_true, Nat.reduceAdd, oLoad_ptr, Nat.zero_le, Nat.max_self, hs, c_reader_digit, h2, w1, w2, h4, c_reader_want, outR, rdSet, hset_self hs, errV]
    · have h2 : ¬ (Rd.digit c : Int) < (b : Int) := by omega
      rw [if_neg h1]
      simp (maxDischargeDepth := 9) only [bnd_some, bcall_ret, cnd_false, gua_yes, oMove_v, oPick_t, oNil_ptr, oFieldPtr_ptr, oBin_add, oBin_mul, oBin_lss, oBin_leq, oBin_sneq, htrunc_self, loadB_var, takeCells_1, oIndexStr_0, mr_bool, mr_int, mr_tup, mrL_nil, mrL_cons, rt_tup, rtF_some, depth_eq, frz_bool, frz_int, frz_tup, mapO_nil, mapO_cons, decide_false, Bool.not_false, if_true, List.drop_zero, Nat.add_zero, Option.bind_some, Option.map_some, reduceCtorEq, Nat.reduceAdd, oLoad_ptr, Nat.zero_le, Nat.max_self, hs, c_reader_digit, h2, outR, rdSet, hset_self hs]
theorem c_reader_number {p b most : Nat} {s : List UInt8} {H : Heap} (hb : b ≤ 100) (hm : most ≤ 10000000) (hs : RdAt H p s) :
    E n_reader_reader_number [.ptr p 0 0, .int .i64 b, .int .i64 most] H = outR p H (fun r : Nat × Bool => .tup [.int .i64 r.1, .bool r.2]) (Rd.number b most s) := by
  rw [reader_reader_number_E, reader_reader_number_eq]
  exact c_reader_number_l hb hm s hs rfl (Nat.zero_le _)

theorem c_reader_quoted {p : Nat} {s : List UInt8} {H : Heap} (hs : RdAt H p s) (h1 : 1 ≤ s.length) (hl : s.length < 4611686018427387904) : E n_reader_reader_quoted [.ptr p 0 0] H = outR p H V.str (Rd.quoted s) := by
  rw [reader_reader_quoted_E, reader_reader_quoted_eq]
  have hp := hget_lt hs
  have hc := c_reader_cut hs 1 h1
  simp only [show ((1 : Nat) : Int) = 1 from rfl] at hc
  unfold Rd.quoted
  have hl2 : (s.drop 1).length < 4611686018427387904 := by simp; omega
  generalize s.drop 1 = t at *
  have h2 := c_reader_run (s := t) (cap := []) (H := rdSet H p t) (fun c => c_reader_quoted_1 c _) hl2
  have h3 := c_reader_cut (H := rdSet H p t) (s := t) (hget_s hp) (t.takeWhile Rd.isQuot).length (takeWhile_le _ _)
  rw [drop_take_while, take_take_while] at h3
  generalize t.takeWhile Rd.isQuot = a at *
  generalize t.dropWhile Rd.isQuot = b at *
  simp only [rdSet, hset_s] at h2 h3
  have h4 := c_reader_take (H := rdSet H p b) (s := b) (hget_s hp) 34
  simp only [show ((34 : Nat) : Int) = 34 from rfl, rdSet, hset_s] at h4
  cases h5 : Rd.headIs b 34 with
  | true =>
    rw [h5] at h4
    simp only [if_true] at h4
    simp only [bnd_some, bcall_ret, oNil_ptr, oFieldPtr_ptr, Nat.add_zero, oLoad_ptr, hget_s hp, loadB_var, List.drop_zero, takeCells_1, hc, h2, h3, h4, c_reader_want, if_true, outR, rdSet, rt_str, htrunc_hset]
  | false =>
    rw [h5] at h4
    simp only [Bool.false_eq_true, if_false] at h4
    simp only [bnd_some, bcall_ret, bcall_pan, oNil_ptr, oFieldPtr_ptr, Nat.add_zero, oLoad_ptr, hget_s hp, loadB_var, List.drop_zero, takeCells_1, hc, h2, h3, h4, c_reader_want, Bool.false_eq_true, if_false, outR, rdSet, pn_int, htrunc_hset, errV]
end Go.Proofs.Ytjnnegacjmcdbaa
end

