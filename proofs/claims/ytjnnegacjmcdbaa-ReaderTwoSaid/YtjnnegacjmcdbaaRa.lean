/- Ra: a part of the proof that each law of this seat answers true at every input. No condition. -/
import Derived.Test.YtjnnegacjmcdbaaCc
set_option linter.unusedVariables false
set_option linter.unusedSimpArgs false
set_option maxRecDepth 20000
section
/- The document's reader, function by function: what a byte is, lines' ends, room. -/
namespace Go.Proofs.Ytjnnegacjmcdbaa
open Go Go.Ev
set_option linter.unusedVariables false
set_option linter.unusedSimpArgs false

/-- The reader's text, place and error. -/
abbrev RfAt (H : Heap) (p : Nat) (S : List UInt8) (a : Nat) (e : Int) : Prop := hget H p = some (.var [.str S, .int .i64 a, .int .i64 e])
abbrev rfSet (H : Heap) (p : Nat) (S : List UInt8) (a : Nat) (e : Int) : Heap := hset H p (.var [.str S, .int .i64 a, .int .i64 e])
theorem rf_o {H : Heap} {p : Nat} {S : List UInt8} {a : Nat} {e : Int} {b : Blk} (hs : RfAt H p S a e) : RfAt (b :: H) p S a e := by rw [RfAt, hget_o (hget_lt hs)]; exact hs
theorem rf_s {H : Heap} {p : Nat} {S : List UInt8} {a : Nat} {e : Int} (hp : p < H.length) : RfAt (rfSet H p S a e) p S a e := hget_s hp

/-- A byte, or -1. -/
def hd (s : List UInt8) : Int :=
  match s with
  | [] => -1
  | c :: _ => c.toNat
theorem hd_ge (s : List UInt8) : -1 ≤ hd s ∧ hd s < 256 := by
  cases s with
  | nil => simp [hd]
  | cons c s => have := c.toNat_lt; simp [hd]; omega

theorem r_fail {p : Nat} {S : List UInt8} {a : Nat} {e : Int} {H : Heap} (hs : RfAt H p S a e) (k : Int) : E n_ref03_reader_fail [.ptr p 0 0, .int .i64 k] H = some (.ret (.tup []), rfSet H p S a (if e = 0 then k else e)) := by
  have hp := hget_lt hs
  rw [ref03_reader_fail_E, ref03_reader_fail_eq]
  by_cases h : e = 0
  · subst h
    simp (maxDischargeDepth := 9) only [bnd_some, beff_some, cnd_true, oNil_ptr, oFieldPtr_ptr, oBin_eql, htrunc_self, loadB_var, takeCells_1, rt_tup0, cells_int, scalL_nil, scalL_cons, scal_int, mr_int, storeB_var, splice_zero, splice_succ, htrunc_hset, decide_true, if_true, List.drop_zero, List.drop_succ_cons, List.length_cons, List.length_nil, Nat.zero_add, Bool.and_true, List.append_nil, Nat.reduceAdd, oLoad_ptr, oStore_ptr, List.drop_nil, le_s, Nat.le_refl, Nat.zero_le, or_true, and_self, hp, hs, rfSet]
  · rw [if_neg h]
    simp (maxDischargeDepth := 9) only [bnd_some, beff_some, cnd_false, oNil_ptr, oFieldPtr_ptr, oBin_eql, htrunc_self, loadB_var, takeCells_1, rt_tup0, cells_int, scalL_nil, scalL_cons, scal_int, mr_int, storeB_var, splice_zero, splice_succ, htrunc_hset, decide_false, if_true, List.drop_zero, List.drop_succ_cons, List.length_cons, List.length_nil, Nat.zero_add, Bool.and_true, List.append_nil, Nat.reduceAdd, oLoad_ptr, oStore_ptr, List.drop_nil, le_s, Nat.le_refl, Nat.zero_le, or_true, and_self, hp, hs, h, rfSet, hset_self hs]

theorem r_at {p : Nat} {S : List UInt8} {a : Nat} {e : Int} {H : Heap} (hs : RfAt H p S a e) (hl : S.length < 60000) (k : Nat) (hk : a + k < 1000000000) :
    E n_ref03_reader_at [.ptr p 0 0, .int .i64 k] H = some (.ret (.int .i64 (hd (S.drop (a + k)))), H) := by
  rw [ref03_reader_at_E, ref03_reader_at_eq]
  have w : IntKind.i64.wrap ((a : Int) + (k : Int)) = ((a + k : Nat) : Int) := by rw [wrap_i64 (by omega) (by omega)]; omega
  by_cases h : S.length ≤ a + k
  · have h' : (S.length : Int) ≤ ((a + k : Nat) : Int) := by omega
    rw [List.drop_of_length_le h]
    simp (maxDischargeDepth := 9) only [bnd_some, cnd_true, oNil_ptr, oFieldPtr_ptr, oLenStr_str, oBin_add, oBin_geq, htrunc_self, loadB_var, takeCells_1, rt_int, decide_true, List.drop_zero, List.drop_succ_cons, Nat.add_zero, Nat.zero_add, oLoad_ptr, hs, w, h', hd]
  · have h' : ¬ (S.length : Int) ≤ ((a + k : Nat) : Int) := by omega
    obtain ⟨c, r, hc⟩ : ∃ c r, S.drop (a + k) = c :: r := by
      cases hd : S.drop (a + k) with
      | nil => simp at hd; omega
      | cons c r => exact ⟨c, r, rfl⟩
    obtain ⟨g1, g2, g3⟩ := drop_cons hc
    have h5 : oIndexStr (.str S) (.int .i64 ((a + k : Nat) : Int)) = some (.int .u8 c.toNat) := oIndexStr_at (by omega) (by rw [Int.toNat_natCast]; exact g1)
    have w2 : IntKind.i64.wrap (c.toNat : Int) = c.toNat := wrap_i64 (by omega) (by have := c.toNat_lt; omega)
    rw [hc]
    simp (maxDischargeDepth := 9) only [bnd_some, cnd_false, oNil_ptr, oFieldPtr_ptr, oIntTo_int, oLenStr_str, oBin_add, oBin_geq, htrunc_self, loadB_var, takeCells_1, rt_int, decide_false, List.drop_zero, List.drop_succ_cons, Nat.add_zero, Nat.zero_add, oLoad_ptr, hs, w, h', h5, w2, hd]

def blankI (c : Int) : Bool := decide (c = 32) || decide (c = 9)
def alphaI (c : Int) : Bool := decide (65 ≤ c) && decide (c ≤ 90) || decide (97 ≤ c) && decide (c ≤ 122)
def digitI (c : Int) : Bool := decide (48 ≤ c) && decide (c ≤ 57)
theorem r_blank (c : Int) (H : Heap) : E n_ref03_blank [.int .i64 c] H = some (.ret (.bool (blankI c)), H) := by
  rw [ref03_blank_E, ref03_blank_eq]
  unfold blankI
  cases h1 : decide (c = 32) <;> cases h2 : decide (c = 9) <;> simp (maxDischargeDepth := 9) only [bnd_some, gua_yes, gua_tf, oMove_v, oPick_t, oPick_f, oBin_eql, htrunc_self, rt_bool, Bool.or_true, Bool.or_false, h1, h2]
theorem r_alpha (c : Int) (H : Heap) : E n_ref03_alpha [.int .i64 c] H = some (.ret (.bool (alphaI c)), H) := by
  rw [ref03_alpha_E, ref03_alpha_eq]
  unfold alphaI
  cases h1 : decide (65 ≤ c) <;> cases h2 : decide (c ≤ 90) <;> cases h3 : decide (97 ≤ c) <;> cases h4 : decide (c ≤ 122) <;> simp (maxDischargeDepth := 9) only [bnd_some, gua_yes, gua_tf, gua_ft, gua_tup, oMove_v, oPick_t, oPick_f, oBin_leq, oBin_geq, htrunc_self, rt_bool, Bool.and_true, Bool.and_false, Bool.or_true, Bool.or_false, h1, h2, h3, h4]
theorem r_digit (c : Int) (H : Heap) : E n_ref03_digit [.int .i64 c] H = some (.ret (.bool (digitI c)), H) := by
  rw [ref03_digit_E, ref03_digit_eq]
  unfold digitI
  cases h1 : decide (48 ≤ c) <;> cases h2 : decide (c ≤ 57) <;> simp (maxDischargeDepth := 9) only [bnd_some, gua_yes, gua_ft, oMove_v, oPick_t, oPick_f, oBin_leq, oBin_geq, htrunc_self, rt_bool, Bool.and_true, Bool.and_false, h1, h2]
theorem r_lower (c : UInt8) (H : Heap) : E n_ref03_lower [.int .u8 c.toNat] H = some (.ret (.int .u8 (Rd.smallB c).toNat), H) := by
  rw [ref03_lower_E, ref03_lower_eq]
  have hc := c.toNat_lt
  cases h1 : decide ((65 : Int) ≤ c.toNat) <;> cases h2 : decide ((c.toNat : Int) ≤ 90)
  case true.true =>
    have e1 : IntKind.u8.wrap ((c.toNat : Int) + 32) = ((Rd.smallB c).toNat : Int) := by
      simp at h1 h2
      rw [wrap_u8 (by omega) (by omega)]
      unfold Rd.smallB
      rw [if_pos ⟨by omega, by omega⟩]
      simp; omega
    simp (maxDischargeDepth := 9) only [bnd_some, cnd_true, gua_yes, oMove_v, oPick_t, oBin_add, oBin_leq, oBin_geq, htrunc_self, rt_int, h1, h2, e1]
  all_goals
    have e2 : Rd.smallB c = c := by
      unfold Rd.smallB
      simp at h1 h2
      rw [if_neg (by omega)]
    simp (maxDischargeDepth := 9) only [bnd_some, cnd_false, gua_yes, gua_ft, oMove_v, oPick_t, oPick_f, oBin_add, oBin_leq, oBin_geq, htrunc_self, rt_int, h1, h2, e2]

/-- Is something so of the first byte? -/
def hdP (q : UInt8 → Bool) (s : List UInt8) : Bool :=
  match s with
  | [] => false
  | c :: _ => q c
theorem blank_hd (s : List UInt8) : blankI (hd s) = hdP Rd.isBlank s := by
  cases s with
  | nil => rfl
  | cons c s => show (decide ((c.toNat : Int) = 32) || decide ((c.toNat : Int) = 9)) = (c.toNat == 32 || c.toNat == 9); rw [Bool.eq_iff_iff]; simp only [Bool.or_eq_true, Bool.and_eq_true, decide_eq_true_eq, beq_iff_eq]; omega
theorem alpha_hd (s : List UInt8) : alphaI (hd s) = hdP Rd.isLetter s := by
  cases s with
  | nil => rfl
  | cons c s => show (decide (65 ≤ (c.toNat : Int)) && decide ((c.toNat : Int) ≤ 90) || decide (97 ≤ (c.toNat : Int)) && decide ((c.toNat : Int) ≤ 122)) = Rd.isLetter c; unfold Rd.isLetter; rw [Bool.eq_iff_iff]; simp only [Bool.or_eq_true, Bool.and_eq_true, decide_eq_true_eq, beq_iff_eq]; omega
theorem digit_hd (s : List UInt8) : digitI (hd s) = hdP Rd.isDigit s := by
  cases s with
  | nil => rfl
  | cons c s => show (decide (48 ≤ (c.toNat : Int)) && decide ((c.toNat : Int) ≤ 57)) = Rd.isDigit c; unfold Rd.isDigit; rw [Bool.eq_iff_iff]; simp only [Bool.or_eq_true, Bool.and_eq_true, decide_eq_true_eq, beq_iff_eq]; omega
theorem hd_eq (s : List UInt8) (k : Nat) : decide (hd s = (k : Int)) = Rd.headIs s k := by
  cases s with
  | nil => exact decide_eq_false (by simp only [hd]; omega)
  | cons c s => show decide ((c.toNat : Int) = (k : Int)) = (c.toNat == k); rw [Bool.eq_iff_iff]; simp only [Bool.or_eq_true, Bool.and_eq_true, decide_eq_true_eq, beq_iff_eq]; omega

/-- How long the line's end is, from so far on. -/
theorem r_ends_j {p : Nat} {S : List UInt8} {a : Nat} {e : Int} {H : Heap} (hs : RfAt H p S a e) (hl : S.length < 60000) (k : Nat) (hk : a + k < 900000000) :
    ref03_reader_ends_j2 H.length (.ptr p 0 0) (.int .i64 k) H = some (.ret (.int .i64 (match S.drop (a + k) with
      | [] => (k : Int)
      | c :: r => if c.toNat = 10 then (k + 1 : Nat) else if c.toNat = 13 ∧ Rd.headIs r 10 = true then (k + 2 : Nat) else -1)), H) := by
  rw [ref03_reader_ends_j2_eq]
  have h0 := r_at hs hl k (by omega)
  have h1 := r_at hs hl (k + 1) (by omega)
  have w1 : IntKind.i64.wrap ((k : Int) + 1) = ((k + 1 : Nat) : Int) := wrap_succ (by omega)
  have w2 : IntKind.i64.wrap ((k : Int) + 2) = ((k + 2 : Nat) : Int) := by rw [wrap_i64 (by omega) (by omega)]; omega
  cases hd0 : S.drop (a + k) with
  | nil =>
    rw [hd0] at h0
    simp only [hd] at h0
    have n1 : ¬ ((-1 : Int) = 10) := by omega
    have n2 : ¬ ((-1 : Int) = 13) := by omega
    have n3 : (-1 : Int) < 0 := by omega
    simp (maxDischargeDepth := 9) only [bnd_some, bcall_ret, cnd_true, cnd_false, gua_ft, oMove_v, oPick_f, oBin_add, oBin_eql, oBin_lss, htrunc_self, rt_int, decide_true, decide_false, h0, n1, n2, n3]
  | cons c r =>
    rw [hd0] at h0
    obtain ⟨g1, g2, g3⟩ := drop_cons hd0
    rw [show a + (k + 1) = a + k + 1 by omega, g2] at h1
    simp only [hd] at h0
    have hr := hd_eq r 10
    simp only [cast_lit] at hr
    cases hc : decide ((c.toNat : Int) = 10) with
    | true =>
      have : c.toNat = 10 := by simp at hc; omega
      simp (maxDischargeDepth := 9) only [bnd_some, bcall_ret, cnd_true, oMove_v, oBin_add, oBin_eql, htrunc_self, rt_int, h0, hc, w1]
      simp [this]
    | false =>
      have n1 : ¬ c.toNat = 10 := by simp at hc; omega
      have n3 : ¬ (c.toNat : Int) < 0 := by omega
      cases hc2 : decide ((c.toNat : Int) = 13) with
      | false =>
        have n2 : ¬ c.toNat = 13 := by simp at hc2; omega
        simp (maxDischargeDepth := 9) only [bnd_some, bcall_ret, cnd_false, gua_ft, oMove_v, oPick_f, oBin_add, oBin_eql, oBin_lss, htrunc_self, rt_int, decide_false, h0, hc, hc2, n3]
        simp [n1, n2]
      | true =>
        have n2 : c.toNat = 13 := by simp at hc2; omega
        cases hq : Rd.headIs r 10 with
        | true =>
          rw [hq] at hr
          simp (maxDischargeDepth := 9) only [bnd_some, bcall_ret, cnd_true, cnd_false, gua_yes, oMove_v, oPick_t, oBin_add, oBin_eql, oBin_lss, htrunc_self, rt_int, h0, hc, hc2, w1, h1, hr, w2]
          simp [n2, hq]
        | false =>
          rw [hq] at hr
          simp (maxDischargeDepth := 9) only [bnd_some, bcall_ret, cnd_false, gua_yes, oMove_v, oPick_t, oBin_add, oBin_eql, oBin_lss, htrunc_self, rt_int, decide_false, h0, hc, hc2, w1, h1, hr, n3]
          simp [n2, hq]

theorem com_hd (s : List UInt8) : (blankI (hd s) || (decide (32 < hd s) && decide (hd s < 127))) = hdP Rd.isCom s := by
  rw [blank_hd]
  cases s with
  | nil => rfl
  | cons c s =>
    show (Rd.isBlank c || (decide (32 < (c.toNat : Int)) && decide ((c.toNat : Int) < 127))) = Rd.isCom c
    unfold Rd.isCom
    congr 1
    rw [Bool.eq_iff_iff]; simp only [Bool.or_eq_true, Bool.and_eq_true, decide_eq_true_eq, beq_iff_eq]; omega

theorem r_ends_s {p : Nat} {S : List UInt8} {a : Nat} {e : Int} {H : Heap} (hs : RfAt H p S a e) (hl : S.length < 60000) (ha : a < 100000000) (k : Nat) (hk : k ≤ S.length + 1) :
    ref03_reader_ends_l1 H.length (.ptr p 0 0) (.int .i64 k) H = if hdP Rd.isCom (S.drop (a + k)) = true then ref03_reader_ends_l1 H.length (.ptr p 0 0) (.int .i64 ((k + 1 : Nat) : Int)) H else ref03_reader_ends_j2 H.length (.ptr p 0 0) (.int .i64 k) H := by
  have h0 := r_at hs hl k (by omega)
  have w1 : IntKind.i64.wrap ((k : Int) + 1) = ((k + 1 : Nat) : Int) := wrap_succ (by omega)
  rw [ref03_reader_ends_l1_eq, ← com_hd]
  generalize S.drop (a + k) = r at *
  cases h1 : blankI (hd r) with
  | true => simp (maxDischargeDepth := 9) only [bnd_some, bcall_ret, cnd_true, gua_tf, gua_tup, oMove_v, oPick_t, oBin_add, if_true, Bool.true_or, h0, r_blank, h1, w1]
  | false =>
    cases h2 : decide (32 < hd r) with
    | false => simp (maxDischargeDepth := 9) only [bnd_some, bcall_ret, cnd_false, gua_yes, gua_ft, oMove_v, oPick_f, oBin_add, oBin_gtr, if_false, Bool.false_and, Bool.or_false, Bool.false_eq_true, h0, r_blank, h1, h2]
    | true => cases h3 : decide (hd r < 127) <;> simp (maxDischargeDepth := 9) only [bnd_some, bcall_ret, cnd_true, cnd_false, gua_yes, oMove_v, oPick_t, oPick_f, oBin_add, oBin_lss, oBin_gtr, if_true, if_false, Bool.and_true, Bool.and_false, Bool.or_true, Bool.or_false, Bool.false_eq_true, h0, r_blank, h1, h2, h3, w1]
theorem r_ends_l {p : Nat} {S : List UInt8} {a : Nat} {e : Int} {H : Heap} (hs : RfAt H p S a e) (hl : S.length < 60000) (ha : a < 100000000) : ∀ (r : List UInt8) (k : Nat), S.drop (a + k) = r → k ≤ S.length + 1 →
    ref03_reader_ends_l1 H.length (.ptr p 0 0) (.int .i64 k) H = ref03_reader_ends_j2 H.length (.ptr p 0 0) (.int .i64 ((k + (r.takeWhile Rd.isCom).length : Nat) : Int)) H
  | [], k, hd0, hk => by
    rw [r_ends_s hs hl ha k hk, hd0]
    simp [hdP]
  | c :: r, k, hd0, hk => by
    obtain ⟨g1, g2, g3⟩ := drop_cons hd0
    rw [r_ends_s hs hl ha k hk, hd0, List.takeWhile_cons, show hdP Rd.isCom (c :: r) = Rd.isCom c from rfl]
    by_cases hc : Rd.isCom c = true
    case neg => rw [if_neg hc, if_neg hc]; rfl
    case pos =>
      rw [if_pos hc, if_pos hc, r_ends_l hs hl ha r (k + 1) (by rw [← g2]; congr 1) (by omega)]
      simp only [List.length_cons]
      rw [show k + 1 + (List.takeWhile Rd.isCom r).length = k + ((List.takeWhile Rd.isCom r).length + 1) by omega]

theorem r_ends {p : Nat} {S : List UInt8} {a : Nat} {e : Int} {H : Heap} (hs : RfAt H p S a e) (hl : S.length < 60000) (ha : a < 100000000) : E n_ref03_reader_ends [.ptr p 0 0] H = some (.ret (.int .i64 (endI (S.drop a))), H) := by
  rw [ref03_reader_ends_E, ref03_reader_ends_eq, endI_eq]
  have h0 := r_at hs hl 0 (by omega)
  have h59 := hd_eq (S.drop a) 59
  simp only [cast_lit, Nat.add_zero] at h0 h59
  unfold Rd.endRest
  cases h1 : Rd.headIs (S.drop a) 59 with
  | false =>
    rw [h1] at h59
    have j := r_ends_j hs hl 0 (by omega)
    simp only [cast_lit, Nat.add_zero] at j
    simp (maxDischargeDepth := 9) only [bnd_some, bcall_ret, cnd_false, oBin_eql, cast_lit, if_false, Nat.zero_add, Bool.false_eq_true, h0, h59, j]
    unfold endJ
    cases S.drop a with
    | nil => simp
    | cons c r => simp
  | true =>
    rw [h1] at h59
    have hlen := headIs_len h1
    have hl1 := r_ends_l hs hl ha (S.drop (a + 1)) 1 rfl (by omega)
    have j := r_ends_j hs hl (1 + ((S.drop (a + 1)).takeWhile Rd.isCom).length) (by have := takeWhile_le Rd.isCom (S.drop (a + 1)); simp at this; omega)
    rw [j] at hl1
    simp only [cast_lit] at hl1
    simp (maxDischargeDepth := 9) only [bnd_some, bcall_ret, cnd_true, oBin_eql, if_true, h0, h59, hl1]
    have e1 : (S.drop a).drop 1 = S.drop (a + 1) := by rw [List.drop_drop]
    rw [e1]
    have e2 : S.drop (a + (1 + ((S.drop (a + 1)).takeWhile Rd.isCom).length)) = (S.drop (a + 1)).dropWhile Rd.isCom := by
      rw [← drop_take_while, List.drop_drop]; congr 1; omega
    rw [e2]
    have e3 : (S.drop a).length - ((S.drop (a + 1)).dropWhile Rd.isCom).length = 1 + ((S.drop (a + 1)).takeWhile Rd.isCom).length := by
      have := congrArg List.length (List.takeWhile_append_dropWhile (p := Rd.isCom) (l := S.drop (a + 1)))
      simp only [List.length_append, List.length_drop] at this ⊢
      simp only [List.length_drop] at hlen
      omega
    unfold endJ
    generalize hk : 1 + ((S.drop (a + 1)).takeWhile Rd.isCom).length = k at *
    cases hdw : (S.drop (a + 1)).dropWhile Rd.isCom with
    | nil => rw [hdw] at e3; simp only; rw [← e3]
    | cons c r => rw [hdw] at e3; simp only; rw [e3]
end Go.Proofs.Ytjnnegacjmcdbaa
end

section
/- The document's reader, function by function: room, names, numbers. -/
namespace Go.Proofs.Ytjnnegacjmcdbaa
open Go Go.Ev
set_option linter.unusedVariables false
set_option linter.unusedSimpArgs false

/-- What the document's reader comes to, where the words' answer is this one. -/
def Rel {α : Type} (S : List UInt8) (r : Rd.Res α) (x : α) (a : Nat) (e : Int) : Prop :=
  match r with
  | .ok y s => x = y ∧ S.drop a = s ∧ a ≤ S.length ∧ e = 0
  | .err c _ => e = c ∧ c ≠ 0
/-- The words' answer from a state on. -/
def startR {α : Type} (f : List UInt8 → Rd.Res α) (S : List UInt8) (a : Nat) (e : Int) : Rd.Res α := if e = 0 then f (S.drop a) else .err e []
/-- A function of the document's reader does what the words say. -/
def RfC {α : Type} (n : FuncId) (args : List V) (enc : α → V) (w : Nat) (f : List UInt8 → Rd.Res α) : Prop :=
  ∀ {p : Nat} {S : List UInt8} {a : Nat} {e : Int} {B : Nat} {H : Heap}, RfAt H p S a e → S.length < 60000 → a ≤ S.length + B → B ≤ 10000 → (e = 0 → a ≤ S.length) →
    ∃ x a' e', E n (.ptr p 0 0 :: args) H = some (.ret (enc x), rfSet H p S a' e') ∧ a' ≤ S.length + B + w ∧ Rel S (startR f S a e) x a' e'

theorem wrap_nat {a b : Nat} (h : a + b < 4611686018427387904) : IntKind.i64.wrap ((a : Int) + (b : Int)) = ((a + b : Nat) : Int) := by
  rw [wrap_i64 (by omega) (by omega)]; omega

theorem r_skip_l {p : Nat} {S : List UInt8} (hl : S.length < 60000) {base fr : Nat} : ∀ (n : Nat) {a : Nat} {H : Heap}, RfAt H p S a 0 → base = H.length → (S.drop a).length ≤ n → a ≤ S.length → fr ≤ a →
    ∃ a', ref03_reader_skip_l1 base (.ptr p 0 0) (.int .i64 fr) H = some (.ret (.bool (decide (fr < a'))), rfSet H p S a' 0) ∧ S.drop a' = Rd.roomN n (S.drop a) ∧ a' ≤ S.length ∧ a ≤ a'
  | n, a, H, hs, hb, hn, ha, hf => by
    subst hb
    have hp := hget_lt hs
    have he := r_ends hs hl (by omega)
    have h0 := r_at hs hl 0 (by omega)
    simp only [cast_lit, Nat.add_zero] at h0
    have hbl := blank_hd (S.drop a)
    have stop : ∀ s, S.drop a = s → Rd.roomN n s = s → ref03_reader_skip_l1 H.length (.ptr p 0 0) (.int .i64 fr) H = some (.ret (.bool (decide ((fr : Int) < (a : Int)))), H) →
        ∃ a', ref03_reader_skip_l1 H.length (.ptr p 0 0) (.int .i64 fr) H = some (.ret (.bool (decide (fr < a'))), rfSet H p S a' 0) ∧ S.drop a' = Rd.roomN n s ∧ a' ≤ S.length ∧ a ≤ a' := by
      intro s h1 h2 h3
      refine ⟨a, ?_, by rw [h1, h2], ha, Nat.le_refl _⟩
      rw [h3, rfSet, hset_self hs]
      congr 4
      simp
    cases hd0 : S.drop a with
    | nil =>
      refine stop [] hd0 (by cases n <;> rfl) ?_
      rw [hd0] at h0 he hbl
      have hi : endI [] = 0 := by decide
      rw [hi] at he
      simp only [hdP] at hbl
      rw [ref03_reader_skip_l1_eq]
      have n0 : ¬ (0 : Int) < 0 := by omega
      simp (maxDischargeDepth := 9) only [bnd_some, beff_some, bcall_ret, cnd_true, cnd_false, gua_ft, oMove_v, oPick_f, oNil_ptr, oFieldPtr_ptr, oBin_add, oBin_eql, oBin_gtr, htrunc_self, loadB_var, takeCells_1, rt_bool, cells_int, scalL_nil, scalL_cons, scal_int, mr_int, storeB_var, splice_zero, splice_succ, decide_true, decide_false, if_true, List.drop_zero, List.drop_succ_cons, List.length_cons, List.length_nil, Nat.zero_add, Bool.and_true, List.nil_append, List.cons_append, Nat.reduceAdd, oLoad_ptr, oStore_ptr, le_s, Nat.le_refl, Nat.zero_le, or_true, and_self, hs, he, h0, r_blank, hbl, n0]
    | cons c r =>
      obtain ⟨g1, g2, g3⟩ := drop_cons hd0
      rw [hd0] at h0 he hbl hn
      simp only [hdP] at hbl
      obtain ⟨m, rfl⟩ : ∃ m, n = m + 1 := ⟨n - 1, by simp at hn; omega⟩
      simp only [List.length_cons] at hn
      cases h1 : Rd.isBlank c with
      | true =>
        rw [h1] at hbl
        obtain ⟨a', i1, i2, i3, i4⟩ := r_skip_l hl (base := H.length) (fr := fr) m (a := a + 1) (H := rfSet H p S (a + 1) 0) (rf_s hp) (by simp) (by rw [g2]; omega) (by omega) (by omega)
        refine ⟨a', ?_, ?_, i3, by omega⟩
        · rw [ref03_reader_skip_l1_eq]
          simp only [rfSet, hset_s] at i1
          simp (maxDischargeDepth := 9) only [bnd_some, beff_some, bcall_ret, cnd_true, oMove_v, oNil_ptr, oFieldPtr_ptr, oBin_add, oBin_eql, oBin_gtr, htrunc_self, loadB_var, takeCells_1, rt_bool, cells_int, scalL_nil, scalL_cons, scal_int, mr_int, storeB_var, splice_zero, splice_succ, decide_true, if_true, List.drop_zero, List.drop_succ_cons, List.length_cons, List.length_nil, Nat.zero_add, Bool.and_true, List.nil_append, List.cons_append, Nat.reduceAdd, oLoad_ptr, oStore_ptr, le_s, Nat.le_refl, Nat.zero_le, or_true, and_self, hp, hs, he, h0, r_blank, hbl, wrap_succ (show a < 4611686018427387904 by omega), i1]
        · rw [i2, g2]; simp [Rd.roomN, h1]
      | false =>
        rw [h1] at hbl
        cases h2 : Rd.endN (c :: r) with
        | none =>
          refine stop _ hd0 (by simp [Rd.roomN, h1, h2]) ?_
          have hi : endI (c :: r) = -1 := by simp [endI, h2]
          rw [hi] at he
          have n0 : ¬ (0 : Int) < -1 := by omega
          rw [ref03_reader_skip_l1_eq]
          simp (maxDischargeDepth := 9) only [bnd_some, beff_some, bcall_ret, cnd_true, cnd_false, gua_ft, oMove_v, oPick_f, oNil_ptr, oFieldPtr_ptr, oBin_add, oBin_eql, oBin_gtr, htrunc_self, loadB_var, takeCells_1, rt_bool, cells_int, scalL_nil, scalL_cons, scal_int, mr_int, storeB_var, splice_zero, splice_succ, decide_true, decide_false, if_true, List.drop_zero, List.drop_succ_cons, List.length_cons, List.length_nil, Nat.zero_add, Bool.and_true, List.nil_append, List.cons_append, Nat.reduceAdd, oLoad_ptr, oStore_ptr, le_s, Nat.le_refl, Nat.zero_le, or_true, and_self, hs, he, h0, r_blank, hbl, n0]
        | some k =>
          have hi : endI (c :: r) = k := by simp [endI, h2]
          rw [hi] at he
          have hk := endN_pos _ k (by simp) h2
          have hk2 := endN_le _ k h2
          have n0 : (0 : Int) < k := by omega
          have hlen : (S.drop a).length = r.length + 1 := by rw [hd0]; rfl
          simp only [List.length_cons] at hk2
          simp only [List.length_drop] at hlen
          have hk' := r_at hs hl k (by omega)
          have hbk := blank_hd (S.drop (a + k))
          have hdk : (c :: r).drop k = S.drop (a + k) := by rw [← hd0, List.drop_drop]
          cases hd2 : S.drop (a + k) with
          | nil =>
            rw [hd2] at hk' hbk
            refine stop _ hd0 (by simp only [Rd.roomN, h1, h2, hdk, hd2, if_neg (show ¬ k = 0 by omega)]; rfl) ?_
            simp only [hdP] at hbk
            rw [ref03_reader_skip_l1_eq]
            simp (maxDischargeDepth := 9) only [bnd_some, beff_some, bcall_ret, cnd_true, cnd_false, gua_yes, oMove_v, oPick_t, oNil_ptr, oFieldPtr_ptr, oBin_add, oBin_eql, oBin_gtr, htrunc_self, loadB_var, takeCells_1, rt_bool, cells_int, scalL_nil, scalL_cons, scal_int, mr_int, storeB_var, splice_zero, splice_succ, decide_true, if_true, List.drop_zero, List.drop_succ_cons, List.length_cons, List.length_nil, Nat.zero_add, Bool.and_true, List.nil_append, List.cons_append, Nat.reduceAdd, oLoad_ptr, oStore_ptr, le_s, Nat.le_refl, Nat.zero_le, or_true, and_self, hs, he, h0, r_blank, hbl, n0, hk', hbk]
          | cons d r' =>
            rw [hd2] at hk' hbk
            simp only [hdP] at hbk
            obtain ⟨f1, f2, f3⟩ := drop_cons hd2
            cases h3 : Rd.isBlank d with
            | false =>
              rw [h3] at hbk
              refine stop _ hd0 (by simp only [Rd.roomN, h1, h2, hdk, hd2, h3, if_neg (show ¬ k = 0 by omega)]; rfl) ?_
              rw [ref03_reader_skip_l1_eq]
              simp (maxDischargeDepth := 9) only [bnd_some, beff_some, bcall_ret, cnd_true, cnd_false, gua_yes, oMove_v, oPick_t, oNil_ptr, oFieldPtr_ptr, oBin_add, oBin_eql, oBin_gtr, htrunc_self, loadB_var, takeCells_1, rt_bool, cells_int, scalL_nil, scalL_cons, scal_int, mr_int, storeB_var, splice_zero, splice_succ, decide_true, if_true, List.drop_zero, List.drop_succ_cons, List.length_cons, List.length_nil, Nat.zero_add, Bool.and_true, List.nil_append, List.cons_append, Nat.reduceAdd, oLoad_ptr, oStore_ptr, le_s, Nat.le_refl, Nat.zero_le, or_true, and_self, hs, he, h0, r_blank, hbl, n0, hk', hbk]
            | true =>
              rw [h3] at hbk
              have hlen2 : (S.drop (a + k)).length = r'.length + 1 := by rw [hd2]; rfl
              simp only [List.length_drop] at hlen2
              obtain ⟨a', i1, i2, i3, i4⟩ := r_skip_l hl (base := H.length) (fr := fr) m (a := a + k) (H := rfSet H p S (a + k) 0) (rf_s hp) (by simp) (by simp; omega) (by omega) (by omega)
              refine ⟨a', ?_, ?_, i3, by omega⟩
              · rw [ref03_reader_skip_l1_eq]
                simp only [rfSet, hset_s] at i1
                simp (maxDischargeDepth := 9) only [bnd_some, beff_some, bcall_ret, cnd_true, cnd_false, gua_yes, oMove_v, oPick_t, oNil_ptr, oFieldPtr_ptr, oBin_add, oBin_eql, oBin_gtr, htrunc_self, loadB_var, takeCells_1, rt_bool, cells_int, scalL_nil, scalL_cons, scal_int, mr_int, storeB_var, splice_zero, splice_succ, decide_true, if_true, List.drop_zero, List.drop_succ_cons, List.length_cons, List.length_nil, Nat.zero_add, Bool.and_true, List.nil_append, List.cons_append, Nat.reduceAdd, oLoad_ptr, oStore_ptr, le_s, Nat.le_refl, Nat.zero_le, or_true, and_self, hp, hs, he, h0, r_blank, hbl, n0, hk', hbk, wrap_nat (show a + k < 4611686018427387904 by omega), i1]
              · rw [i2, hd2]; simp only [Rd.roomN, h1, h2, hdk, hd2, h3, if_neg (show ¬ k = 0 by omega)]; rfl

theorem r_skip {p : Nat} {S : List UInt8} {a : Nat} {H : Heap} (hs : RfAt H p S a 0) (hl : S.length < 60000) (ha : a ≤ S.length) :
    ∃ a', E n_ref03_reader_skip [.ptr p 0 0] H = some (.ret (.bool (decide ((Rd.room (S.drop a)).length < (S.drop a).length))), rfSet H p S a' 0) ∧ S.drop a' = Rd.room (S.drop a) ∧ a' ≤ S.length := by
  obtain ⟨a', i1, i2, i3, i4⟩ := r_skip_l hl (base := H.length) (fr := a) (S.drop a).length hs rfl (Nat.le_refl _) ha (Nat.le_refl _)
  refine ⟨a', ?_, i2, i3⟩
  rw [ref03_reader_skip_E, ref03_reader_skip_eq]
  have hb : decide ((Rd.room (S.drop a)).length < (S.drop a).length) = decide (a < a') := by
    have : (Rd.room (S.drop a)).length = S.length - a' := by
      have := congrArg List.length i2
      rw [List.length_drop] at this
      exact this.symm
    rw [Bool.eq_iff_iff]; simp only [decide_eq_true_eq]
    rw [this, List.length_drop]; omega
  rw [hb]
  simp (maxDischargeDepth := 9) only [bnd_some, oNil_ptr, oFieldPtr_ptr, loadB_var, takeCells_1, List.drop_zero, List.drop_succ_cons, Nat.zero_add, oLoad_ptr, hs, i1]
theorem r_skip_e {p : Nat} {S : List UInt8} {a : Nat} {e : Int} {H : Heap} (hs : RfAt H p S a e) (he : e ≠ 0) : E n_ref03_reader_skip [.ptr p 0 0] H = some (.ret (.bool false), H) := by
  rw [ref03_reader_skip_E, ref03_reader_skip_eq]
  simp (maxDischargeDepth := 9) only [bnd_some, oNil_ptr, oFieldPtr_ptr, loadB_var, takeCells_1, List.drop_zero, List.drop_succ_cons, Nat.zero_add, oLoad_ptr, hs]
  rw [ref03_reader_skip_l1_eq]
  simp (maxDischargeDepth := 9) only [bnd_some, cnd_false, oMove_v, oNil_ptr, oFieldPtr_ptr, oBin_eql, htrunc_self, loadB_var, takeCells_1, rt_bool, decide_false, List.drop_zero, List.drop_succ_cons, Nat.zero_add, oLoad_ptr, oStore_ptr, hs, he]

/-- A name: the loop, once there is a letter. -/
theorem r_name_l {p : Nat} {S : List UInt8} (hl : S.length < 60000) {base : Nat} {e : Int} : ∀ (r : List UInt8) {a : Nat} {acc : List UInt8} {H : Heap}, RfAt H p S a e → base = H.length → S.drop a = r → a ≤ 1000000 → acc ≠ [] → acc.length + r.length < 1000000 →
    ref03_reader_name_l1 base (.ptr p 0 0) (.str acc) (.int .i64 (hd r)) H = ref03_reader_name_j2 base (.ptr p 0 0) (.str (acc ++ Rd.small (r.takeWhile Rd.isName))) (rfSet H p S (a + (r.takeWhile Rd.isName).length) e)
  | [], a, acc, H, hs, hb, hd0, ha, h0, hal => by
    subst hb
    rw [ref03_reader_name_l1_eq]
    have n1 : alphaI (hd []) = false := by decide
    have n2 : digitI (hd []) = false := by decide
    have n3 : ¬ (hd [] = 45) := by decide
    simp (maxDischargeDepth := 9) only [bnd_some, bcall_ret, cnd_false, gua_yes, oMove_v, oPick_t, oPick_f, oNil_ptr, oFieldPtr_ptr, oIntTo_int, oBin_eql, oBin_seql, oBin_sneq, decide_false, Bool.not_false, List.length_nil, Nat.add_zero, Nat.zero_add, List.append_nil, oLoad_ptr, oStore_ptr, r_alpha, r_digit, n1, n2, n3, h0, List.takeWhile_nil, Rd.small, List.map_nil, rfSet, hset_self hs]
  | c :: r, a, acc, H, hs, hb, hd0, ha, h0, hal => by
    subst hb
    have hp := hget_lt hs
    obtain ⟨g1, g2, g3⟩ := drop_cons hd0
    have n1 := alpha_hd (c :: r)
    have n2 := digit_hd (c :: r)
    have n3 := hd_eq (c :: r) 45
    simp only [cast_lit, hdP] at n1 n2 n3
    simp only [Rd.headIs] at n3
    have step : Rd.isName c = true → (∀ rest, ref03_reader_name_l1 H.length (.ptr p 0 0) (.str (acc ++ [Rd.smallB c])) (.int .i64 (hd r)) (rfSet H p S (a + 1) e) = rest → rest = ref03_reader_name_j2 H.length (.ptr p 0 0) (.str (acc ++ Rd.small ((c :: r).takeWhile Rd.isName))) (rfSet H p S (a + ((c :: r).takeWhile Rd.isName).length) e)) := by
      intro hn rest hr
      rw [← hr, r_name_l hl r (a := a + 1) (acc := acc ++ [Rd.smallB c]) (H := rfSet H p S (a + 1) e) (rf_s hp) (by simp) g2 (by omega) (by simp) (by simp at hal ⊢; omega)]
      rw [List.takeWhile_cons, if_pos hn]
      simp only [Rd.small, List.map_cons, List.append_assoc, List.cons_append, List.nil_append, List.length_cons, rfSet, hset_s]
      rw [show a + 1 + (List.takeWhile Rd.isName r).length = a + ((List.takeWhile Rd.isName r).length + 1) by omega]
    have w : IntKind.u8.wrap (hd (c :: r)) = c.toNat := by have := c.toNat_lt; exact wrap_u8 (by simp [hd]) (by simp [hd]; omega)
    have tx : ∀ H' : Heap, oText H' (.vs [.int .u8 (Rd.smallB c).toNat]) = some (.str [Rd.smallB c]) := by
      intro H'; rw [oText_eq]; simp [rText, slCells, allLen, flat, bytesOf]
    have cat : oBin .add 6 (.str acc) (.str [Rd.smallB c]) = some (.str (acc ++ [Rd.smallB c])) := oBin_cat _ _ _ (by simp at hal ⊢; omega)
    have h1 := r_at (H := rfSet H p S (a + 1) e) (rf_s hp) hl 0 (by omega)
    simp only [cast_lit, Nat.add_zero, g2] at h1
    have go : Rd.isName c = true → (reader : Prop) → reader = True → True := fun _ _ _ => trivial
    clear go
    rw [ref03_reader_name_l1_eq]
    cases hL : Rd.isLetter c with
    | true =>
      rw [hL] at n1
      have hn : Rd.isName c = true := by simp [Rd.isName, hL]
      have hstep := step hn _ rfl
      simp (maxDischargeDepth := 9) only [bnd_some, beff_some, bcall_ret, cnd_true, gua_tf, gua_tup, oMove_v, oPick_t, oNil_ptr, oFieldPtr_ptr, oIntTo_int, oBin_add, oBin_seql, loadB_var, takeCells_1, cells_int, scalL_nil, scalL_cons, scal_int, mr_int, storeB_var, splice_zero, splice_succ, oLit_int, if_true, List.drop_zero, List.drop_succ_cons, List.length_cons, List.length_nil, Nat.zero_add, Bool.and_true, List.nil_append, List.cons_append, Nat.reduceAdd, oLoad_ptr, oStore_ptr, le_s, Nat.le_refl, Nat.zero_le, or_true, and_self, hp, hs, r_alpha, r_digit, n1, w, r_lower, tx, cat, wrap_succ (show a < 4611686018427387904 by omega), h1, hstep]
    | false =>
      rw [hL] at n1
      cases hD : Rd.isDigit c with
      | true =>
        rw [hD] at n2
        have hn : Rd.isName c = true := by simp [Rd.isName, hD]
        have hstep := step hn _ rfl
        simp (maxDischargeDepth := 9) only [bnd_some, beff_some, bcall_ret, cnd_true, cnd_false, gua_yes, gua_tf, oMove_v, oPick_t, oPick_f, oNil_ptr, oFieldPtr_ptr, oIntTo_int, oBin_add, oBin_seql, oBin_sneq, loadB_var, takeCells_1, cells_int, scalL_nil, scalL_cons, scal_int, mr_int, storeB_var, splice_zero, splice_succ, oLit_int, decide_false, Bool.not_false, if_true, List.drop_zero, List.drop_succ_cons, List.length_cons, List.length_nil, Nat.zero_add, Bool.and_true, List.nil_append, List.cons_append, Nat.reduceAdd, oLoad_ptr, oStore_ptr, le_s, Nat.le_refl, Nat.zero_le, or_true, and_self, hp, hs, r_alpha, r_digit, n1, n2, h0, w, r_lower, tx, cat, wrap_succ (show a < 4611686018427387904 by omega), h1, hstep]
      | false =>
        rw [hD] at n2
        cases h45 : (c.toNat == 45) with
        | true =>
          rw [h45] at n3
          have hn : Rd.isName c = true := by simp [Rd.isName, h45]
          have hstep := step hn _ rfl
          simp (maxDischargeDepth := 9) only [bnd_some, beff_some, bcall_ret, cnd_true, cnd_false, gua_yes, oMove_v, oPick_t, oPick_f, oNil_ptr, oFieldPtr_ptr, oIntTo_int, oBin_add, oBin_eql, oBin_seql, oBin_sneq, loadB_var, takeCells_1, cells_int, scalL_nil, scalL_cons, scal_int, mr_int, storeB_var, splice_zero, splice_succ, oLit_int, decide_false, Bool.not_false, if_true, List.drop_zero, List.drop_succ_cons, List.length_cons, List.length_nil, Nat.zero_add, Bool.and_true, List.nil_append, List.cons_append, Nat.reduceAdd, oLoad_ptr, oStore_ptr, le_s, Nat.le_refl, Nat.zero_le, or_true, and_self, hp, hs, r_alpha, r_digit, n1, n2, n3, h0, w, r_lower, tx, cat, wrap_succ (show a < 4611686018427387904 by omega), h1, hstep]
        | false =>
          rw [h45] at n3
          have hn : Rd.isName c = false := by simp [Rd.isName, hL, hD, h45]
          simp (maxDischargeDepth := 9) only [bnd_some, bcall_ret, cnd_false, gua_yes, oMove_v, oPick_t, oPick_f, oNil_ptr, oFieldPtr_ptr, oIntTo_int, oBin_eql, oBin_seql, oBin_sneq, decide_false, Bool.not_false, if_false, List.length_nil, Nat.add_zero, Nat.zero_add, Bool.false_eq_true, List.append_nil, oLoad_ptr, oStore_ptr, hp, hs, r_alpha, r_digit, n1, n2, n3, h0, List.takeWhile_cons, hn, Rd.small, List.map_nil, rfSet, hset_self hs]
theorem r_name_2 {p : Nat} {S : List UInt8} {a : Nat} {e : Int} {t : List UInt8} {H : Heap} (hs : RfAt H p S a e) : ref03_reader_name_j2 H.length (.ptr p 0 0) (.str t) H = some (.ret (.str t), rfSet H p S a (if 40 < t.length ∧ e = 0 then 2 else e)) := by
  rw [ref03_reader_name_j2_eq]
  by_cases h : 40 < t.length
  · have h' : (40 : Int) < t.length := by omega
    simp (maxDischargeDepth := 9) only [bnd_some, bcall_ret, cnd_true, oLenStr_str, oBin_gtr, htrunc_self, rt_str, htrunc_hset, decide_true, true_and, h', r_fail hs, ref03_reader_name_j3_eq, rfSet, h]
  · have h' : ¬ (40 : Int) < t.length := by omega
    simp (maxDischargeDepth := 9) only [bnd_some, cnd_false, oLenStr_str, oBin_gtr, htrunc_self, rt_str, decide_false, if_false, false_and, h', ref03_reader_name_j3_eq, rfSet, h, hset_self hs]
theorem r_name : RfC n_ref03_reader_name [] V.str 0 Rd.name := by
  intro p S a e B H hs hl ha hB he
  have hp := hget_lt hs
  have h0 := r_at hs hl 0 (by omega)
  simp only [cast_lit, Nat.add_zero] at h0
  have n1 := alpha_hd (S.drop a)
  have n2 := digit_hd (S.drop a)
  have bad : hdP Rd.isLetter (S.drop a) = false → ∃ x a' e', E n_ref03_reader_name [.ptr p 0 0] H = some (.ret (.str x), rfSet H p S a' e') ∧ a' ≤ S.length + B + 0 ∧ Rel S (startR Rd.name S a e) x a' e' := by
    intro hb
    rw [hb] at n1
    refine ⟨[], a, if e = 0 then 20 else e, ?_, by omega, ?_⟩
    · have hf := r_fail hs 20
      have j := r_name_2 (t := []) (H := rfSet H p S a (if e = 0 then 20 else e)) (rf_s hp)
      simp only [rfSet, hset_length, hset_s] at j hf
      rw [ref03_reader_name_E, ref03_reader_name_eq]
      simp (maxDischargeDepth := 9) only [bcall_ret, h0]
      rw [ref03_reader_name_l1_eq]
      simp (maxDischargeDepth := 9) only [bnd_some, bcall_ret, cnd_true, cnd_false, gua_yes, gua_ft, gua_tup, oMove_v, oPick_f, oNil_ptr, oFieldPtr_ptr, oIntTo_int, oBin_seql, oBin_sneq, decide_true, Bool.not_true, List.length_nil, Nat.zero_add, oLoad_ptr, oStore_ptr, r_alpha, n1, hf, j]
      simp
    · unfold startR
      split
      · have : ∃ s', Rd.name (S.drop a) = .err 20 s' := by
          unfold Rd.name
          cases hd0 : S.drop a with
          | nil => exact ⟨_, rfl⟩
          | cons c r => rw [hd0] at hb; simp only [hdP] at hb; simp [hb]
        obtain ⟨s', h⟩ := this
        rw [h]
        exact ⟨by simp_all, by omega⟩
      · exact ⟨by simp_all, by assumption⟩
  cases hd0 : S.drop a with
  | nil => exact bad (by rw [hd0]; rfl)
  | cons c r =>
    cases hL : Rd.isLetter c with
    | false => exact bad (by rw [hd0]; exact hL)
    | true =>
      rw [hd0] at h0 n1 n2
      simp only [hdP, hL] at n1
      obtain ⟨g1, g2, g3⟩ := drop_cons hd0
      have hrl : r.length < 60000 := by rw [← g2]; simp; omega
      have hn : Rd.isName c = true := by simp [Rd.isName, hL]
      have w : IntKind.u8.wrap (hd (c :: r)) = c.toNat := by have := c.toNat_lt; exact wrap_u8 (by simp [hd]) (by simp [hd]; omega)
      have tx : ∀ H' : Heap, oText H' (.vs [.int .u8 (Rd.smallB c).toNat]) = some (.str [Rd.smallB c]) := by
        intro H'; rw [oText_eq]; simp [rText, slCells, allLen, flat, bytesOf]
      have cat : oBin .add 6 (.str []) (.str [Rd.smallB c]) = some (.str [Rd.smallB c]) := oBin_cat _ _ _ (by simp)
      have h1 := r_at (H := rfSet H p S (a + 1) e) (rf_s hp) hl 0 (by omega)
      simp only [cast_lit, Nat.add_zero, g2] at h1
      have lp := r_name_l (H := rfSet H p S (a + 1) e) (base := H.length) hl r (acc := [Rd.smallB c]) (rf_s hp) (by simp) g2 (by omega) (by simp) (by simp; omega)
      have htw : (c :: r).takeWhile Rd.isName = c :: r.takeWhile Rd.isName := by rw [List.takeWhile_cons, if_pos hn]
      have hdw : (c :: r).dropWhile Rd.isName = r.dropWhile Rd.isName := by rw [List.dropWhile_cons, if_pos hn]
      have htl := takeWhile_le Rd.isName r
      have j := r_name_2 (t := [Rd.smallB c] ++ Rd.small (r.takeWhile Rd.isName)) (H := rfSet H p S (a + 1 + (r.takeWhile Rd.isName).length) e) (rf_s hp)
      simp only [rfSet, hset_length, hset_s] at j lp h1
      have hrlen : r.length = S.length - (a + 1) := by rw [← g2]; simp
      refine ⟨[Rd.smallB c] ++ Rd.small (r.takeWhile Rd.isName), a + 1 + (r.takeWhile Rd.isName).length, (if 40 < ([Rd.smallB c] ++ Rd.small (r.takeWhile Rd.isName)).length ∧ e = 0 then 2 else e), ?_, by omega, ?_⟩
      · rw [ref03_reader_name_E, ref03_reader_name_eq]
        simp (maxDischargeDepth := 9) only [bcall_ret, List.length_cons, List.nil_append, List.cons_append, h0]
        rw [ref03_reader_name_l1_eq]
        simp (maxDischargeDepth := 9) only [bnd_some, beff_some, bcall_ret, cnd_true, gua_tf, gua_tup, oMove_v, oPick_t, oNil_ptr, oFieldPtr_ptr, oIntTo_int, oBin_add, oBin_seql, loadB_var, takeCells_1, cells_int, scalL_nil, scalL_cons, scal_int, mr_int, storeB_var, splice_zero, splice_succ, oLit_int, decide_true, if_true, List.drop_zero, List.drop_succ_cons, List.length_cons, List.length_nil, Nat.zero_add, Bool.and_true, List.nil_append, List.cons_append, Nat.reduceAdd, oLoad_ptr, oStore_ptr, le_s, Nat.le_refl, Nat.zero_le, or_true, and_self, hp, hs, r_alpha, n1, w, r_lower, tx, cat, wrap_succ (show a < 4611686018427387904 by omega), h1, lp]
        exact j
      · unfold startR
        have hsl : ([Rd.smallB c] ++ Rd.small (r.takeWhile Rd.isName)).length = ((c :: r).takeWhile Rd.isName).length := by rw [htw]; simp [Rd.small]
        rw [hsl]
        by_cases h0e : e = 0
        · rw [if_pos h0e, hd0]
          unfold Rd.name
          simp only [hL, if_true]
          by_cases h40 : ((c :: r).takeWhile Rd.isName).length ≤ 40
          · rw [if_pos h40, if_neg (by omega)]
            refine ⟨by rw [htw]; simp [Rd.small], ?_, by omega, h0e⟩
            rw [hdw, ← drop_take_while, ← g2, List.drop_drop]
          · rw [if_neg h40, if_pos ⟨by omega, h0e⟩]
            exact ⟨rfl, by omega⟩
        · rw [if_neg h0e, if_neg (by simp [h0e])]
          exact ⟨rfl, h0e⟩

/-! Numbers. -/
def numV (r : Nat × Bool) : V := .int .i64 (if r.2 then (r.1 : Int) else -1)
theorem hd_or (c : UInt8) (r : List UInt8) : IntKind.i64.wrap ((BitVec.ofInt IntKind.i64.bits (hd (c :: r)) ||| BitVec.ofInt IntKind.i64.bits 32).toNat : Int) = ((c.toNat ||| 32 : Nat) : Int) := by
  have hc := c.toNat_lt
  have h1 : (BitVec.ofInt IntKind.i64.bits (hd (c :: r)) ||| BitVec.ofInt IntKind.i64.bits 32).toNat = c.toNat ||| 32 := by
    have e1 : BitVec.ofInt 64 (c.toNat : Int) = BitVec.ofNat 64 c.toNat := by
      apply BitVec.eq_of_toNat_eq; simp
    show (BitVec.ofInt 64 (c.toNat : Int) ||| BitVec.ofInt 64 32).toNat = c.toNat ||| 32
    rw [e1]
    simp [BitVec.toNat_or]
  rw [h1]
  have h2 : c.toNat ||| 32 < 256 := Nat.or_lt_two_pow (n := 8) hc (by omega)
  exact wrap_i64 (by omega) (by omega)
theorem digit_99 (c : UInt8) (h1 : Rd.isDigit c = false) (h2 : Rd.isLetter c = false) : Rd.digit c = 99 := by
  simp [Rd.isLetter] at h2
  simp only [Rd.digit, h1]
  rw [if_neg (by simp), if_neg (by omega), if_neg (by omega)]
theorem digit_letter (c : UInt8) (h1 : Rd.isDigit c = false) (h2 : Rd.isLetter c = true) : Rd.digit c = (if (c.toNat ||| 32) ≤ 102 then (c.toNat ||| 32) - 87 else 99) ∧ 97 ≤ c.toNat ||| 32 ∧ c.toNat ||| 32 ≤ 122 := by
  have hc := c.toNat_lt
  have h3 : (97 ≤ c.toNat ∧ c.toNat ≤ 122) ∨ (65 ≤ c.toNat ∧ c.toNat ≤ 90) := by simpa [Rd.isLetter] using h2
  have ho : c.toNat ||| 32 = if 97 ≤ c.toNat then c.toNat else c.toNat + 32 := by
    rcases h3 with h3 | h3
    · rw [or32_lower _ hc h3.1 h3.2, if_pos h3.1]
    · rw [or32_upper _ hc h3.1 h3.2, if_neg (by omega)]
  refine ⟨?_, by rw [ho]; split <;> omega⟩
  rw [ho]
  simp only [Rd.digit, h1, Bool.false_eq_true, if_false]
  rcases h3 with h3 | h3
  · by_cases h4 : c.toNat ≤ 102
    · rw [if_pos ⟨h3.1, h4⟩, if_pos h3.1, if_pos h4]
    · rw [if_neg (by omega), if_neg (by omega), if_pos h3.1, if_neg h4]
  · rw [if_neg (by omega), if_neg (by omega : ¬ 97 ≤ c.toNat)]
    by_cases h4 : c.toNat ≤ 70
    · rw [if_pos ⟨h3.1, h4⟩, if_pos (by omega)]; omega
    · rw [if_neg (by omega), if_neg (by omega)]

/-- What the digit here is worth. -/
def digI (s : List UInt8) : Int :=
  match s with
  | [] => 99
  | c :: _ => Rd.digit c
/-- A number: one round comes to what the digit is worth. -/
theorem r_number_d {p : Nat} {S : List UInt8} {a b m : Nat} {n0 : Int} {H : Heap} (hs : RfAt H p S a 0) (hl : S.length < 60000) (ha : a ≤ S.length) :
    ref03_reader_number_l1 H.length (.ptr p 0 0) (.int .i64 b) (.int .i64 m) (.int .i64 n0) H =
      ref03_reader_number_j2 H.length (.ptr p 0 0) (.int .i64 b) (.int .i64 m) (.int .i64 n0) (.int .i64 (digI (S.drop a))) H := by
  have h0 := r_at hs hl 0 (by omega)
  simp only [cast_lit, Nat.add_zero] at h0
  have n1 := alpha_hd (S.drop a)
  have n2 := digit_hd (S.drop a)
  rw [ref03_reader_number_l1_eq]
  cases hd0 : S.drop a with
  | nil =>
    rw [hd0] at h0 n1 n2
    simp only [hdP] at n1 n2
    simp (maxDischargeDepth := 9) only [bnd_some, bcall_ret, cnd_true, cnd_false, gua_ft, oMove_v, oPick_f, oNil_ptr, oFieldPtr_ptr, oBin_sub, oBin_eql, oBin_or, htrunc_self, loadB_var, takeCells_1, rt_int, decide_true, List.drop_zero, List.drop_succ_cons, Nat.zero_add, oLoad_ptr, hs, h0, r_digit, r_alpha, n1, n2, digI]
  | cons c r =>
    rw [hd0] at h0 n1 n2
    simp only [hdP] at n1 n2
    have hc := c.toNat_lt
    rw [show digI (c :: r) = (Rd.digit c : Int) from rfl]
    cases h1 : Rd.isDigit c with
    | true =>
      rw [h1] at n2
      have h2 : 48 ≤ c.toNat ∧ c.toNat ≤ 57 := by simpa [Rd.isDigit] using h1
      have w : IntKind.i64.wrap (hd (c :: r) - 48) = (Rd.digit c : Int) := by
        show IntKind.i64.wrap ((c.toNat : Int) - 48) = _
        rw [wrap_i64 (by omega) (by omega)]
        simp only [Rd.digit, h1, if_true]; omega
      simp (maxDischargeDepth := 9) only [bnd_some, bcall_ret, cnd_true, oMove_v, oNil_ptr, oFieldPtr_ptr, oBin_sub, oBin_eql, oBin_or, htrunc_self, loadB_var, takeCells_1, rt_int, decide_true, List.drop_zero, List.drop_succ_cons, Nat.zero_add, oLoad_ptr, hs, h0, r_digit, n2, w]
    | false =>
      rw [h1] at n2
      cases h2 : Rd.isLetter c with
      | false =>
        rw [h2] at n1
        rw [digit_99 c h1 h2]
        simp (maxDischargeDepth := 9) only [bnd_some, bcall_ret, cnd_true, cnd_false, gua_ft, oMove_v, oPick_f, oNil_ptr, oFieldPtr_ptr, oBin_sub, oBin_eql, oBin_or, htrunc_self, loadB_var, takeCells_1, rt_int, cast_lit, decide_true, List.drop_zero, List.drop_succ_cons, Nat.zero_add, oLoad_ptr, hs, h0, r_digit, r_alpha, n1, n2]
      | true =>
        rw [h2] at n1
        obtain ⟨e1, e2, e3⟩ := digit_letter c h1 h2
        have ho := hd_or c r
        rw [e1]
        generalize c.toNat ||| 32 = q at *
        by_cases h4 : q ≤ 102
        · have h5 : (q : Int) ≤ 102 := by omega
          have w1 : IntKind.i64.wrap ((q : Int) - 87) = ((q - 87 : Nat) : Int) := by rw [wrap_i64 (by omega) (by omega)]; omega
          simp (maxDischargeDepth := 9) only [bnd_some, bcall_ret, cnd_true, cnd_false, gua_yes, oMove_v, oPick_t, oNil_ptr, oFieldPtr_ptr, oBin_sub, oBin_eql, oBin_leq, oBin_or, htrunc_self, loadB_var, takeCells_1, rt_int, decide_true, List.drop_zero, List.drop_succ_cons, Nat.zero_add, oLoad_ptr, hs, h0, r_digit, r_alpha, n1, n2, ho, h5, w1]
          simp only [h4, if_true]
        · have h5 : ¬ (q : Int) ≤ 102 := by omega
          simp (maxDischargeDepth := 9) only [bnd_some, bcall_ret, cnd_true, cnd_false, gua_yes, oMove_v, oPick_t, oNil_ptr, oFieldPtr_ptr, oBin_sub, oBin_eql, oBin_leq, oBin_or, htrunc_self, loadB_var, takeCells_1, rt_int, decide_true, decide_false, List.drop_zero, List.drop_succ_cons, Nat.zero_add, oLoad_ptr, hs, h0, r_digit, r_alpha, n1, n2, ho, h5]
          simp only [h4, if_false, cast_lit]


theorem r_number_l {p b m : Nat} {S : List UInt8} (hl : S.length < 60000) (hb : b ≤ 90) (hm : m ≤ 10000000) {base : Nat} : ∀ (r : List UInt8) {n : Nat} {ok : Bool} {a : Nat} {H : Heap}, RfAt H p S a 0 → base = H.length → S.drop a = r → a ≤ S.length → n ≤ m → (ok = false → n = 0) →
    ∃ x a' e', ref03_reader_number_l1 base (.ptr p 0 0) (.int .i64 b) (.int .i64 m) (.int .i64 (if ok then (n : Int) else -1)) H = some (.ret (numV x), rfSet H p S a' e') ∧ a' ≤ S.length ∧ Rel S (Rd.numberL b m n ok r) x a' e'
  | r, n, ok, a, H, hs, hB, hd0, ha, hn, hok => by
    subst hB
    have hp := hget_lt hs
    have hd1 := r_number_d (b := b) (m := m) (n0 := if ok then (n : Int) else -1) hs hl ha
    rw [hd0] at hd1
    have stop : ref03_reader_number_j2 H.length (.ptr p 0 0) (.int .i64 b) (.int .i64 m) (.int .i64 (if ok then (n : Int) else -1)) (.int .i64 (digI r)) H = some (.ret (numV (n, ok)), H) → Rd.numberL b m n ok r = .ok (n, ok) r →
        ∃ x a' e', ref03_reader_number_l1 H.length (.ptr p 0 0) (.int .i64 b) (.int .i64 m) (.int .i64 (if ok then (n : Int) else -1)) H = some (.ret (numV x), rfSet H p S a' e') ∧ a' ≤ S.length ∧ Rel S (Rd.numberL b m n ok r) x a' e' := by
      intro h1 h2
      refine ⟨(n, ok), a, 0, ?_, ha, ?_⟩
      · rw [hd1, h1, rfSet, hset_self hs]
      · rw [h2]; exact ⟨rfl, hd0, ha, rfl⟩
    cases r with
    | nil =>
      refine stop ?_ rfl
      rw [ref03_reader_number_j2_eq, show digI [] = 99 from rfl]
      have n1 : (b : Int) ≤ 99 := by omega
      simp (maxDischargeDepth := 9) only [bnd_some, cnd_true, oBin_add, oBin_mul, oBin_gtr, oBin_geq, htrunc_self, rt_int, oMax_2, decide_true, n1, numV]
    | cons c r =>
      obtain ⟨g1, g2, g3⟩ := drop_cons hd0
      rw [show digI (c :: r) = (Rd.digit c : Int) from rfl] at hd1 stop
      by_cases h1 : Rd.digit c < b
      · have n1 : ¬ (b : Int) ≤ (Rd.digit c : Int) := by omega
        have hmx : (if (if ok then (n : Int) else -1) < 0 then 0 else (if ok then (n : Int) else -1)) = (n : Int) := by
          cases ok with
          | true => simp; omega
          | false => simp [hok rfl]
        have hnb : n * b ≤ 10000000 * 90 := Nat.mul_le_mul (by omega) hb
        have w1 : IntKind.i64.wrap ((n : Int) * (b : Int)) = ((n * b : Nat) : Int) := by rw [← Int.natCast_mul]; exact wrap_i64 (by omega) (by omega)
        have w2 : IntKind.i64.wrap (((n * b : Nat) : Int) + (Rd.digit c : Int)) = ((n * b + Rd.digit c : Nat) : Int) := by rw [wrap_i64 (by omega) (by omega)]; omega
        rw [Rd.numberL, if_pos h1]
        by_cases h3 : n * b + Rd.digit c ≤ m
        · have h4 : ¬ (m : Int) < ((n * b + Rd.digit c : Nat) : Int) := by omega
          obtain ⟨x, a', e', i1, i2, i3⟩ := r_number_l hl hb hm (base := H.length) r (n := n * b + Rd.digit c) (ok := true) (a := a + 1) (H := rfSet H p S (a + 1) 0) (rf_s hp) (by simp) g2 (by omega) h3 (by simp)
          rw [if_pos h3]
          refine ⟨x, a', e', ?_, i2, i3⟩
          rw [hd1, ref03_reader_number_j2_eq]
          simp only [rfSet, hset_s, if_true] at i1
          simp (maxDischargeDepth := 9) only [bnd_some, beff_some, cnd_false, oNil_ptr, oFieldPtr_ptr, oBin_add, oBin_mul, oBin_gtr, oBin_geq, htrunc_self, loadB_var, takeCells_1, rt_int, cells_int, scalL_nil, scalL_cons, scal_int, mr_int, storeB_var, splice_zero, splice_succ, oMax_2, decide_false, if_true, List.drop_zero, List.drop_succ_cons, List.length_cons, List.length_nil, Nat.zero_add, Bool.and_true, List.nil_append, List.cons_append, Nat.reduceAdd, oLoad_ptr, oStore_ptr, le_s, Nat.le_refl, Nat.zero_le, or_true, and_self, n1, hmx, w1, w2, h4, ref03_reader_number_j3_eq, hs, hp, wrap_succ (show a < 4611686018427387904 by omega), i1]
        · have h4 : (m : Int) < ((n * b + Rd.digit c : Nat) : Int) := by omega
          rw [if_neg h3]
          refine ⟨(0, false), a + 1, 2, ?_, by omega, ⟨rfl, by omega⟩⟩
          rw [hd1, ref03_reader_number_j2_eq]
          have hf := r_fail hs 2
          simp only [if_true, rfSet] at hf
          simp (maxDischargeDepth := 9) only [bnd_some, beff_some, bcall_ret, cnd_true, cnd_false, oNil_ptr, oFieldPtr_ptr, oBin_add, oBin_mul, oBin_gtr, oBin_geq, htrunc_self, loadB_var, takeCells_1, rt_int, cells_int, scalL_nil, scalL_cons, scal_int, mr_int, storeB_var, splice_zero, splice_succ, hget_s, hset_s, oMax_2, decide_true, decide_false, if_true, List.drop_zero, List.drop_succ_cons, List.length_cons, List.length_nil, Nat.zero_add, Bool.and_true, List.nil_append, List.cons_append, Nat.reduceAdd, oLoad_ptr, oStore_ptr, le_s, Nat.le_refl, Nat.zero_le, or_true, and_self, n1, hmx, w1, w2, h4, hf, ref03_reader_number_j3_eq, hs, hp, wrap_succ (show a < 4611686018427387904 by omega)]
          rw [ref03_reader_number_l1_eq]
          have n2 : ¬ (2 : Int) = 0 := by omega
          simp (maxDischargeDepth := 9) only [bnd_some, cnd_false, oMove_v, oNil_ptr, oFieldPtr_ptr, oBin_eql, loadB_var, takeCells_1, rt_int, htrunc_hset, cast_lit, hget_s, decide_false, if_false, List.drop_zero, List.drop_succ_cons, Nat.zero_add, Bool.false_eq_true, oLoad_ptr, hp, n2, numV, rfSet]
      · have n1 : (b : Int) ≤ (Rd.digit c : Int) := by omega
        refine stop ?_ (by simp [Rd.numberL, h1])
        rw [ref03_reader_number_j2_eq]
        simp (maxDischargeDepth := 9) only [bnd_some, cnd_true, oBin_add, oBin_mul, oBin_gtr, oBin_geq, htrunc_self, rt_int, oMax_2, decide_true, n1, numV]
theorem r_number {b m : Nat} (hb : b ≤ 90) (hm : m ≤ 10000000) : RfC n_ref03_reader_number [.int .i64 b, .int .i64 m] numV 0 (Rd.number b m) := by
  intro p S a e B H hs hl ha hB he
  rw [ref03_reader_number_E, ref03_reader_number_eq]
  unfold startR
  by_cases h0 : e = 0
  · subst h0
    obtain ⟨x, a', e', i1, i2, i3⟩ := r_number_l hl hb hm (base := H.length) (S.drop a) (n := 0) (ok := false) hs rfl rfl (he rfl) (Nat.zero_le _) (fun _ => rfl)
    rw [if_pos rfl]
    exact ⟨x, a', e', i1, by omega, i3⟩
  · rw [if_neg h0]
    refine ⟨(0, false), a, e, ?_, by omega, ⟨rfl, h0⟩⟩
    rw [ref03_reader_number_l1_eq]
    simp (maxDischargeDepth := 9) only [bnd_some, cnd_false, oMove_v, oNil_ptr, oFieldPtr_ptr, oBin_eql, htrunc_self, loadB_var, takeCells_1, rt_int, cast_lit, decide_false, if_false, List.drop_zero, List.drop_succ_cons, Nat.zero_add, Bool.false_eq_true, oLoad_ptr, hs, h0, numV, rfSet, hset_self hs]

def needF (b : Nat) (s : List UInt8) : Rd.Res Int := (Rd.value b s).bind fun v s' => .ok (v : Int) s'
theorem needF_err {b : Nat} {s s' : List UInt8} {c : Int} (h : Rd.number b 1114111 s = .err c s') : needF b s = .err c s' := by simp [needF, Rd.value, h, Rd.Res.bind]
theorem needF_t {b n : Nat} {s s' : List UInt8} (h : Rd.number b 1114111 s = .ok (n, true) s') : needF b s = .ok (n : Int) s' := by simp [needF, Rd.value, h, Rd.Res.bind]
theorem needF_f {b n : Nat} {s s' : List UInt8} (h : Rd.number b 1114111 s = .ok (n, false) s') : needF b s = .err 20 s' := by simp [needF, Rd.value, h, Rd.Res.bind]
def intV (n : Int) : V := .int .i64 n
theorem r_need {b : Nat} (hb : b ≤ 90) : RfC n_ref03_reader_need [.int .i64 b] intV 0 (needF b) := by
  intro p S a e B H hs hl ha hB he
  have hp := hget_lt hs
  obtain ⟨x, a', e', i1, i2, i3⟩ := r_number (m := 1114111) hb (by omega) hs hl ha hB he
  simp only [cast_lit, rfSet] at i1
  rw [ref03_reader_need_E, ref03_reader_need_eq]
  obtain ⟨n, ok⟩ := x
  have hf := r_fail (H := rfSet H p S a' e') (rf_s hp) 20
  simp only [rfSet, hset_s] at hf
  unfold startR at i3 ⊢
  cases ok with
  | true =>
    have n0 : ¬ (n : Int) < 0 := by omega
    refine ⟨n, a', e', ?_, i2, ?_⟩
    · simp (maxDischargeDepth := 9) only [bnd_some, bcall_ret, cnd_false, oBin_lss, rt_int, htrunc_hset, decide_false, if_true, i1, numV, n0, ref03_reader_need_j1_eq, intV]
    · by_cases h0 : e = 0
      · rw [if_pos h0] at i3 ⊢
        cases hval : Rd.number b 1114111 (S.drop a) with
        | err c s => rw [hval] at i3; rw [needF_err hval]; exact ⟨i3.1, i3.2⟩
        | ok y s =>
          rw [hval] at i3
          obtain ⟨j1, j2, j3, j4⟩ := i3
          subst j1
          rw [needF_t hval]
          exact ⟨rfl, j2, j3, j4⟩
      · rw [if_neg h0] at i3 ⊢
        exact ⟨i3.1, i3.2⟩
  | false =>
    have n0 : (-1 : Int) < 0 := by omega
    refine ⟨-1, a', if e' = 0 then 20 else e', ?_, i2, ?_⟩
    · simp (maxDischargeDepth := 9) only [bnd_some, bcall_ret, cnd_true, oBin_lss, rt_int, htrunc_hset, decide_true, if_false, Bool.false_eq_true, i1, numV, n0, ref03_reader_need_j1_eq, hf, intV]
    · by_cases h0 : e = 0
      · rw [if_pos h0] at i3 ⊢
        cases hval : Rd.number b 1114111 (S.drop a) with
        | err c s => rw [hval] at i3; rw [needF_err hval]; exact ⟨by simp [i3.1, i3.2], i3.2⟩
        | ok y s =>
          rw [hval] at i3
          obtain ⟨j1, j2, j3, j4⟩ := i3
          subst j1
          rw [needF_f hval]
          exact ⟨by simp [j4], by omega⟩
      · rw [if_neg h0] at i3 ⊢
        exact ⟨by simp [i3.1, h0], h0⟩
theorem hd_or_nil : IntKind.i64.wrap ((BitVec.ofInt IntKind.i64.bits (hd []) ||| BitVec.ofInt IntKind.i64.bits 32).toNat : Int) = -1 := by decide
end Go.Proofs.Ytjnnegacjmcdbaa
end

section
/- The document's reader, function by function: texts in quotes, values. -/
namespace Go.Proofs.Ytjnnegacjmcdbaa
open Go Go.Ev
set_option linter.unusedVariables false
set_option linter.unusedSimpArgs false

/-- As before, where nothing has failed yet, and a byte is here. -/
def RfC0 {α : Type} (n : FuncId) (args : List V) (enc : α → V) (w : Nat) (f : List UInt8 → Rd.Res α) : Prop :=
  ∀ {p : Nat} {S : List UInt8} {a : Nat} {H : Heap}, RfAt H p S a 0 → S.length < 60000 → a < S.length →
    ∃ x a' e', E n (.ptr p 0 0 :: args) H = some (.ret (enc x), rfSet H p S a' e') ∧ a' ≤ S.length + w ∧ Rel S (f (S.drop a)) x a' e'

theorem quot_hd (s : List UInt8) : (decide (32 ≤ hd s) && decide (hd s < 127) && !decide (hd s = 34)) = hdP Rd.isQuot s := by
  cases s with
  | nil => rfl
  | cons c s =>
    show (decide (32 ≤ (c.toNat : Int)) && decide ((c.toNat : Int) < 127) && !decide ((c.toNat : Int) = 34)) = Rd.isQuot c
    unfold Rd.isQuot
    have e : decide ((c.toNat : Int) = 34) = (c.toNat == 34) := hd_eq (c :: s) 34
    rw [e]
    congr 1
    rw [Bool.eq_iff_iff]; simp only [Bool.and_eq_true, decide_eq_true_eq]; omega
theorem oSliceStr_mid {s : List UInt8} {k l : IntKind} {a b : Nat} (h : a ≤ b) (hb : b ≤ s.length) : oSliceStr (.str s) (some (.int k a)) (some (.int l b)) none = some (.str ((s.take b).drop a)) := by
  rw [oSliceStr_eq]; simp [vSliceStr, vBound, h, hb]
theorem mid_one {s : List UInt8} {a : Nat} {c : UInt8} {r : List UInt8} (h : s.drop a = c :: r) : (s.take (a + 1)).drop a = [c] := by
  rw [List.drop_take, h]
  simp

theorem r_quoted_l {p : Nat} {S : List UInt8} (hl : S.length < 60000) {base : Nat} : ∀ (r : List UInt8) {a : Nat} {acc : List UInt8} {H : Heap}, RfAt H p S a 0 → base = H.length → S.drop a = r → a ≤ S.length → acc.length + r.length < 1000000 →
    ref03_reader_quoted_l1 base (.ptr p 0 0) (.str acc) H = some (.ret (.str (acc ++ r.takeWhile Rd.isQuot)), rfSet H p S (a + (r.takeWhile Rd.isQuot).length + 1) (if Rd.headIs (r.dropWhile Rd.isQuot) 34 then 0 else 20))
  | r, a, acc, H, hs, hB, hd0, ha, hal => by
    subst hB
    have hp := hget_lt hs
    have h0 := r_at hs hl 0 (by omega)
    simp only [cast_lit, Nat.add_zero] at h0
    have hq := quot_hd (S.drop a)
    have h34 := hd_eq (S.drop a) 34
    simp only [cast_lit] at h34
    have stop : hdP Rd.isQuot (S.drop a) = false → ref03_reader_quoted_l1 H.length (.ptr p 0 0) (.str acc) H = some (.ret (.str acc), rfSet H p S (a + 1) (if Rd.headIs (S.drop a) 34 then 0 else 20)) := by
      intro hh
      rw [hh] at hq
      have hf := r_fail hs 20
      simp only [rfSet, if_true] at hf
      have ws := wrap_succ (show a < 4611686018427387904 by omega)
      rw [ref03_reader_quoted_l1_eq]
      cases h1 : decide (32 ≤ hd (S.drop a)) with
      | false =>
        have h2 : Rd.headIs (S.drop a) 34 = false := by
          rw [← h34]; simp at h1 ⊢; omega
        rw [h2] at h34 ⊢
        simp (maxDischargeDepth := 9) only [bnd_some, beff_some, bcall_ret, cnd_true, cnd_false, gua_ft, oMove_v, oPick_f, oNil_ptr, oFieldPtr_ptr, oBin_add, oBin_neq, oBin_geq, loadB_var, takeCells_1, rt_str, cells_int, scalL_nil, scalL_cons, scal_int, mr_int, storeB_var, splice_zero, splice_succ, htrunc_hset, hget_s, hset_s, Bool.not_false, if_true, if_false, List.drop_zero, List.drop_succ_cons, List.length_cons, List.length_nil, Nat.add_zero, Nat.zero_add, Bool.and_true, Bool.false_eq_true, List.nil_append, List.cons_append, Nat.reduceAdd, oLoad_ptr, oStore_ptr, le_s, Nat.le_refl, Nat.zero_le, or_true, and_self, h0, h1, h34, hf, ref03_reader_quoted_j2_eq, hp, ws, rfSet]
      | true =>
        cases h2 : decide (hd (S.drop a) < 127) with
        | false =>
          have h3 : Rd.headIs (S.drop a) 34 = false := by
            rw [← h34]; simp at h2 ⊢; omega
          rw [h3] at h34 ⊢
          simp (maxDischargeDepth := 9) only [bnd_some, beff_some, bcall_ret, cnd_true, cnd_false, gua_yes, gua_ft, oMove_v, oPick_t, oPick_f, oNil_ptr, oFieldPtr_ptr, oBin_add, oBin_neq, oBin_lss, oBin_geq, loadB_var, takeCells_1, rt_str, cells_int, scalL_nil, scalL_cons, scal_int, mr_int, storeB_var, splice_zero, splice_succ, htrunc_hset, hget_s, hset_s, Bool.not_false, if_true, if_false, List.drop_zero, List.drop_succ_cons, List.length_cons, List.length_nil, Nat.add_zero, Nat.zero_add, Bool.and_true, Bool.false_eq_true, List.nil_append, List.cons_append, Nat.reduceAdd, oLoad_ptr, oStore_ptr, le_s, Nat.le_refl, Nat.zero_le, or_true, and_self, h0, h1, h2, h34, hf, ref03_reader_quoted_j2_eq, hp, ws, rfSet]
        | true =>
          rw [h1, h2] at hq
          have h3 : Rd.headIs (S.drop a) 34 = true := by
            rw [← h34]; simpa using hq
          rw [h3] at h34 ⊢
          simp (maxDischargeDepth := 9) only [bnd_some, beff_some, bcall_ret, cnd_false, gua_yes, oMove_v, oPick_t, oNil_ptr, oFieldPtr_ptr, oBin_add, oBin_neq, oBin_lss, oBin_geq, loadB_var, takeCells_1, rt_str, cells_int, scalL_nil, scalL_cons, scal_int, mr_int, storeB_var, splice_zero, splice_succ, htrunc_hset, Bool.not_true, if_true, List.drop_zero, List.drop_succ_cons, List.length_cons, List.length_nil, Nat.add_zero, Nat.zero_add, Bool.and_true, List.nil_append, List.cons_append, Nat.reduceAdd, oLoad_ptr, oStore_ptr, le_s, Nat.le_refl, Nat.zero_le, or_true, and_self, h0, h1, h2, h34, hs, ref03_reader_quoted_j2_eq, hp, ws, rfSet]
    cases r with
    | nil =>
      rw [stop (by rw [hd0]; rfl), hd0, List.takeWhile_nil, List.append_nil]
      rfl
    | cons c r =>
      cases hcq : Rd.isQuot c with
      | false =>
        rw [stop (by rw [hd0]; exact hcq), hd0]
        simp [List.takeWhile_cons, List.dropWhile_cons, hcq]
      | true =>
        obtain ⟨g1, g2, g3⟩ := drop_cons hd0
        rw [hd0] at hq h0
        rw [show hdP Rd.isQuot (c :: r) = true from hcq] at hq
        have h1 : decide (32 ≤ hd (c :: r)) = true := by revert hq; cases decide (32 ≤ hd (c :: r)) <;> simp
        have h2 : decide (hd (c :: r) < 127) = true := by revert hq; rw [h1]; cases decide (hd (c :: r) < 127) <;> simp
        have h3 : decide (hd (c :: r) = 34) = false := by revert hq; rw [h1, h2]; cases decide (hd (c :: r) = 34) <;> simp
        have ws := wrap_succ (show a < 4611686018427387904 by omega)
        have sl := oSliceStr_mid (s := S) (k := .i64) (l := .i64) (a := a) (b := a + 1) (by omega) (by omega)
        rw [mid_one hd0] at sl
        have cat : oBin .add 6 (.str acc) (.str [c]) = some (.str (acc ++ [c])) := oBin_cat _ _ _ (by simp at hal ⊢; omega)
        have ih := r_quoted_l hl (base := H.length) r (a := a + 1) (acc := acc ++ [c]) (H := rfSet H p S (a + 1) 0) (rf_s hp) (by simp) g2 (by omega) (by simp at hal ⊢; omega)
        simp only [rfSet, hset_s] at ih
        rw [ref03_reader_quoted_l1_eq]
        simp (maxDischargeDepth := 9) only [bnd_some, beff_some, bcall_ret, cnd_true, gua_yes, oMove_v, oPick_t, oNil_ptr, oFieldPtr_ptr, oBin_add, oBin_neq, oBin_lss, oBin_geq, loadB_var, takeCells_1, cells_int, scalL_nil, scalL_cons, scal_int, mr_int, storeB_var, splice_zero, splice_succ, Bool.not_false, if_true, List.drop_zero, List.drop_succ_cons, List.length_cons, List.length_nil, Nat.add_zero, Nat.zero_add, Bool.and_true, List.nil_append, List.cons_append, Nat.reduceAdd, oLoad_ptr, oStore_ptr, le_s, Nat.le_refl, Nat.zero_le, or_true, and_self, h0, h1, h2, h3, hs, hp, ws, sl, cat, ih]
        rw [List.takeWhile_cons, List.dropWhile_cons, if_pos hcq, if_pos hcq]
        simp only [List.append_assoc, List.cons_append, List.nil_append, List.length_cons, rfSet]
        rw [show a + 1 + (List.takeWhile Rd.isQuot r).length + 1 = a + ((List.takeWhile Rd.isQuot r).length + 1) + 1 by omega]

theorem r_quoted {p : Nat} {S : List UInt8} {a : Nat} {H : Heap} (hs : RfAt H p S a 0) (hl : S.length < 60000) (ha : a < S.length) :
    ∃ x a' e', E n_ref03_reader_quoted [.ptr p 0 0] H = some (.ret (.str x), rfSet H p S a' e') ∧ a' ≤ S.length + 2 ∧ Rel S (Rd.quoted (S.drop a)) x a' e' ∧ x.length ≤ S.length := by
  have hp := hget_lt hs
  have hlp := r_quoted_l (H := rfSet H p S (a + 1) 0) hl (base := H.length) (S.drop (a + 1)) (a := a + 1) (acc := []) (rf_s hp) (by simp) rfl (by omega) (by simp; omega)
  simp only [rfSet, hset_s, List.nil_append] at hlp
  have htl := takeWhile_le Rd.isQuot (S.drop (a + 1))
  simp only [List.length_drop] at htl
  refine ⟨(S.drop (a + 1)).takeWhile Rd.isQuot, a + 1 + ((S.drop (a + 1)).takeWhile Rd.isQuot).length + 1, if Rd.headIs ((S.drop (a + 1)).dropWhile Rd.isQuot) 34 then 0 else 20, ?_, by omega, ?_, by omega⟩
  · rw [ref03_reader_quoted_E, ref03_reader_quoted_eq]
    simp (maxDischargeDepth := 9) only [bnd_some, beff_some, oNil_ptr, oFieldPtr_ptr, oBin_add, loadB_var, takeCells_1, cells_int, scalL_nil, scalL_cons, scal_int, mr_int, storeB_var, splice_zero, splice_succ, if_true, List.drop_zero, List.drop_succ_cons, List.length_cons, List.length_nil, Nat.zero_add, Bool.and_true, List.nil_append, List.cons_append, Nat.reduceAdd, oLoad_ptr, oStore_ptr, le_s, Nat.le_refl, Nat.zero_le, or_true, and_self, hs, hp, wrap_succ (show a < 4611686018427387904 by omega), hlp]
  · unfold Rd.quoted
    have e1 : (S.drop a).drop 1 = S.drop (a + 1) := by rw [List.drop_drop]
    rw [e1]
    cases hh : Rd.headIs ((S.drop (a + 1)).dropWhile Rd.isQuot) 34 with
    | false => exact ⟨by simp, by omega⟩
    | true =>
      refine ⟨rfl, ?_, ?_, by simp⟩
      · rw [← drop_take_while, List.drop_drop, List.drop_drop]
        congr 1
      · have := headIs_len hh
        rw [← drop_take_while, List.drop_drop, List.length_drop] at this
        omega

def textF (fold : Bool) (s : List UInt8) : Rd.Res Rd.Expr := (Rd.quoted s).bind fun t s' => .ok (if fold then Rd.fold t else Rd.exact t) s'

/-- A text whose letters are alike: the loop. -/
theorem r_text_l1 {H : Heap} {t : List UInt8} (hl : t.length < 100000) : ∀ (r q : List UInt8), q ++ r = t →
    ref03_reader_text_l1 H.length (.bool true) (.ptr H.length 0 0) (.str t) (.ptr (H.length + 1) 0 0) (.int .i64 q.length) (.var [.int .i64 5, .str (Rd.small q), .nils, .int .i64 0, .int .i64 0, .nils] :: .var zE :: H) = some (.ret (encE (Rd.fold t)), H)
  | [], q, hq => by
    obtain rfl : q = t := by simpa using hq
    have n1 : ¬ ((q.length : Int) < (q.length : Int)) := by omega
    rw [ref03_reader_text_l1_eq]
    simp (maxDischargeDepth := 9) only [bnd_some, beff_some, cnd_false, gua_ft, oMove_v, oPick_f, oFieldPtr_ptr, oUn_not, oLenStr_str, oBin_add, oBin_lss, htrunc_self, loadB_var, takeCells_1, cells_int, cells_agg, scalL_nil, scalL_cons, scal_int, scal_str, scal_nils, mr_int, mr_str, mr_vs, mr_agg, mrL_nil, mrL_cons, storeB_var, splice_zero, htrunc_c, hget_o, hset_o, hget_at, hset_at, takeC, rt_agg, rtF_some, depth_eq, frz_int, frz_str, frz_nils, frz_agg, mapO_nil, mapO_cons, decide_false, Bool.not_true, if_true, List.drop_zero, List.drop_succ_cons, List.length_cons, List.length_nil, Nat.add_zero, Nat.zero_add, Option.bind_some, Option.map_some, Bool.and_true, List.append_nil, List.nil_append, List.cons_append, Nat.reduceAdd, oLoad_ptr, oStore_ptr, List.drop_nil, le_s, Nat.le_refl, Nat.lt_add_one, Nat.zero_le, or_true, true_or, and_true, and_self, Nat.max_self, List.take_zero, List.take_succ_cons, n1, ref03_reader_text_j3_eq, zE]
    rfl
  | c :: r, q, hq => by
    have hlt : q.length + r.length + 1 = t.length := by rw [← hq]; simp; omega
    have n1 : (q.length : Int) < (t.length : Int) := by omega
    have hi : oIndexStr (.str t) (.int .i64 q.length) = some (.int .u8 c.toNat) := oIndexStr_at (by omega) (by rw [Int.toNat_natCast, ← hq]; simp)
    have tx : ∀ H' : Heap, oText H' (.vs [.int .u8 (Rd.smallB c).toNat]) = some (.str [Rd.smallB c]) := by
      intro H'; rw [oText_eq]; simp [rText, slCells, allLen, flat, bytesOf]
    have cat : oBin .add 6 (.str (Rd.small q)) (.str [Rd.smallB c]) = some (.str (Rd.small (q ++ [c]))) := by
      rw [oBin_cat _ _ _ (by simp [Rd.small]; omega)]; simp [Rd.small]
    have ih := r_text_l1 (H := H) hl r (q ++ [c]) (by rw [← hq]; simp)
    rw [List.length_append, List.length_singleton] at ih
    rw [ref03_reader_text_l1_eq]
    simp (maxDischargeDepth := 9) only [bnd_some, beff_some, bcall_ret, cnd_true, cnd_false, gua_yes, gua_ft, sch_true, sam_self, oMove_v, oPick_t, oPick_f, oFieldPtr_ptr, oUn_not, oLenStr_str, oBin_add, oBin_lss, loadB_var, takeCells_1, cells_int, cells_str, scalL_nil, scalL_cons, scal_int, scal_str, mr_int, mr_str, storeB_var, splice_zero, splice_succ, hget_at, hset_at, oLit_int, decide_true, Bool.not_true, if_true, List.drop_zero, List.drop_succ_cons, List.length_cons, List.length_nil, Nat.add_zero, Nat.zero_add, Bool.and_true, List.nil_append, List.cons_append, Nat.reduceAdd, oLoad_ptr, oStore_ptr, le_s, Nat.le_refl, Nat.zero_le, or_true, and_self, n1, hi, r_lower, tx, cat, wrap_succ (show q.length < 4611686018427387904 by omega), ih]
theorem r_text_l2 {H : Heap} {t : List UInt8} (hl : t.length < 100000) : ∀ (r q : List UInt8) (ver : Nat), q ++ r = t →
    ref03_reader_text_l2 H.length (.ptr H.length 0 0) (.str t) (.ptr (H.length + 1) 0 0) (.int .i64 q.length)
      (.row ver 1 false (intsV (q.map fun c => (c.toNat : Int))) :: .var [.int .i64 6, .str [], .rs (H.length + 1 + 1) ver 1 0 q.length, .int .i64 0, .int .i64 0, .nils] :: .var zE :: H) = some (.ret (encE (.mk 6 [] (t.map fun c => (c.toNat : Int)) 0 0 [])), H)
  | [], q, ver, hq => by
    obtain rfl : q = t := by simpa using hq
    have n1 : ¬ ((q.length : Int) < (q.length : Int)) := by omega
    have hf : ∀ H' : Heap, hget H' (H.length + 1 + 1) = some (.row ver 1 false (intsV (q.map fun c => (c.toNat : Int)))) → frz H' H.length 11 (.rs (H.length + 1 + 1) ver 1 0 q.length) = some (encI (q.map fun c => (c.toNat : Int))) := fun H' hh => by
      have := frz_ints (n := 9) (base := H.length) hh (by omega)
      rwa [List.length_map] at this
    rw [ref03_reader_text_l2_eq]
    simp (maxDischargeDepth := 9) only [bnd_some, beff_some, cnd_false, oFieldPtr_ptr, oLenStr_str, oBin_add, oBin_lss, htrunc_self, loadB_var, takeCells_1, cells_agg, scalL_nil, scalL_cons, scal_int, scal_str, scal_nils, scal_rs, mr_int, mr_str, mr_vs, mr_agg, mrL_nil, mrL_cons, storeB_var, splice_zero, htrunc_c, hget_o, hset_o, hget_at, hset_at, takeC, rt_agg, rtF_some, depth_eq, frz_int, frz_str, frz_nils, frz_agg, mapO_nil, mapO_cons, encI_mr, decide_false, if_true, List.drop_zero, List.drop_succ_cons, List.length_cons, List.length_nil, Nat.zero_add, Option.bind_some, Option.map_some, Bool.and_true, List.append_nil, Nat.reduceAdd, oLoad_ptr, oStore_ptr, List.drop_nil, lt_s, le_s, Nat.le_refl, Nat.lt_add_one, Nat.zero_le, true_or, and_true, and_self, Nat.max_self, List.take_zero, List.take_succ_cons, n1, ref03_reader_text_j3_eq, zE, hf]
    rfl
  | c :: r, q, ver, hq => by
    have hlt : q.length + r.length + 1 = t.length := by rw [← hq]; simp; omega
    have n1 : (q.length : Int) < (t.length : Int) := by omega
    have hi : oIndexStr (.str t) (.int .i64 q.length) = some (.int .u8 c.toNat) := oIndexStr_at (by omega) (by rw [Int.toNat_natCast, ← hq]; simp)
    have w : IntKind.i64.wrap (c.toNat : Int) = c.toNat := wrap_i64 (by omega) (by have := c.toNat_lt; omega)
    have ih := r_text_l2 (H := H) hl r (q ++ [c]) (ver + 1) (by rw [← hq]; simp)
    rw [List.length_append, List.length_singleton, List.map_append] at ih
    have ha : ∀ H' : Heap, hget H' (H.length + 1 + 1) = some (.row ver 1 false (intsV (q.map fun c => (c.toNat : Int)))) → oAppend H.length 1 8 false (.rs (H.length + 1 + 1) ver 1 0 q.length) (.vs [.int .i64 c.toNat]) H' =
        some (.rs (H.length + 1 + 1) (ver + 1) 1 0 (q.length + 1), hset H' (H.length + 1 + 1) (.row (ver + 1) 1 false (intsV ((q.map fun c => (c.toNat : Int)) ++ [(c.toNat : Int)])))) :=
      fun H' hg => append_int hg (by simp) (by simp; omega)
    simp only [List.map_cons, List.map_nil] at ih
    rw [ref03_reader_text_l2_eq]
    simp (maxDischargeDepth := 9) only [bnd_some, beff_some, cnd_true, oFieldPtr_ptr, oIntTo_int, oLenStr_str, oBin_add, oBin_lss, loadB_var, takeCells_1, cells_rs, scalL_nil, scalL_cons, scal_rs, mr_rs, storeB_var, splice_zero, splice_succ, hget_o, hset_o, hget_at, hset_at, oLit_int, decide_true, if_true, List.drop_zero, List.drop_succ_cons, List.length_cons, List.length_nil, Nat.zero_add, Bool.and_true, List.nil_append, List.cons_append, Nat.reduceAdd, Nat.reduceLeDiff, oLoad_ptr, oStore_ptr, le_s, Nat.le_refl, Nat.lt_add_one, true_or, and_self, n1, hi, w, ha, wrap_succ (show q.length < 4611686018427387904 by omega), ih]
theorem r_text (fold : Bool) : RfC0 n_ref03_reader_text [.bool fold] encE 2 (textF fold) := by
  intro p S a H hs hl ha
  have hp := hget_lt hs
  obtain ⟨t, a', e', i1, i2, i3, i4⟩ := r_quoted (H := .var zE :: H) (rf_o hs) hl ha
  have htl : t.length < 100000 := by omega
  have res : Rel S (textF fold (S.drop a)) (if fold then Rd.fold t else Rd.exact t) a' e' := by
    unfold textF
    cases hval : Rd.quoted (S.drop a) with
    | err c s => rw [hval] at i3; exact i3
    | ok y s =>
      rw [hval] at i3
      obtain ⟨j1, j2, j3, j4⟩ := i3
      subst j1
      exact ⟨rfl, j2, j3, j4⟩
  refine ⟨_, a', e', ?_, i2, res⟩
  simp (maxDischargeDepth := 9) only [hset_o, hp, zE] at i1
  rw [ref03_reader_text_E, ref03_reader_text_eq]
  cases fold with
  | true =>
    have l1 := r_text_l1 (H := rfSet H p S a' e') htl t [] rfl
    simp (maxDischargeDepth := 9) only [cast_lit, List.length_nil, hset_length, zE, Rd.small, List.map_nil] at l1
    simp (maxDischargeDepth := 9) only [bnd_some, beff_some, bcall_ret, cells_int, cells_agg, scalL_nil, scalL_cons, scal_int, scal_str, scal_nils, mr_int, mr_str, mr_nils, mr_agg, mrL_nil, mrL_cons, storeB_var, splice_zero, hget_at, hset_at, oVar_c, oBuild_nil, oBuild_cons, buildB_some, if_true, List.drop_zero, List.drop_succ_cons, List.length_cons, List.length_nil, Nat.zero_add, Bool.and_true, List.append_nil, List.nil_append, List.cons_append, Nat.reduceAdd, hset_length, oStore_ptr, List.drop_nil, le_s, Nat.le_refl, Nat.zero_le, or_true, and_self, Nat.max_self, i1, List.getElem?_cons_zero, List.getElem?_cons_succ, l1]
  | false =>
    cases t with
    | nil =>
      simp (maxDischargeDepth := 9) only [bnd_some, beff_some, bcall_ret, cells_int, cells_agg, scalL_nil, scalL_cons, scal_int, scal_str, scal_nils, mr_int, mr_str, mr_nils, mr_agg, mrL_nil, mrL_cons, storeB_var, splice_zero, hget_at, hset_at, oVar_c, oBuild_nil, oBuild_cons, buildB_some, if_true, if_false, List.drop_zero, List.drop_succ_cons, List.length_cons, List.length_nil, Nat.zero_add, Bool.and_true, Bool.false_eq_true, List.append_nil, List.nil_append, List.cons_append, Nat.reduceAdd, hset_length, oStore_ptr, List.drop_nil, le_s, Nat.le_refl, Nat.zero_le, or_true, and_self, Nat.max_self, i1, List.getElem?_cons_zero, List.getElem?_cons_succ]
      rw [ref03_reader_text_l1_eq]
      have n1 : ¬ (0 : Int) < 0 := by omega
      simp (maxDischargeDepth := 9) only [bnd_some, beff_some, cnd_false, gua_yes, gua_ft, oMove_v, oPick_t, oPick_f, oFieldPtr_ptr, oUn_not, oLenStr_str, oBin_add, oBin_lss, oBin_sneq, loadB_var, takeCells_1, cells_int, cells_agg, scalL_nil, scalL_cons, scal_int, scal_str, scal_nils, mr_int, mr_str, mr_vs, mr_agg, mrL_nil, mrL_cons, storeB_var, splice_zero, htrunc_hset, cast_lit, htrunc_c, hget_o, hset_o, hget_at, hset_at, takeC, rt_agg, rtF_some, depth_eq, frz_int, frz_str, frz_nils, frz_agg, mapO_nil, mapO_cons, decide_true, decide_false, Bool.not_true, Bool.not_false, if_true, List.drop_zero, List.drop_succ_cons, List.length_cons, List.length_nil, Nat.add_zero, Nat.zero_add, Option.bind_some, Option.map_some, Bool.and_true, List.append_nil, List.nil_append, List.cons_append, Nat.reduceAdd, Int.reduceAdd, hset_length, oLoad_ptr, oStore_ptr, List.drop_nil, le_s, Nat.le_refl, Nat.lt_add_one, Nat.zero_le, or_true, true_or, and_true, and_self, Nat.max_self, List.take_zero, List.take_succ_cons, n1, ref03_reader_text_j3_eq]
      rfl
    | cons c r =>
      have l2 := r_text_l2 (H := rfSet H p S a' e') htl r [c] 0 rfl
      simp (maxDischargeDepth := 9) only [cast_lit, List.length_cons, List.length_nil, Nat.zero_add, hset_length, zE, List.map_cons, List.map_nil] at l2
      have n1 : (0 : Int) < ((r.length + 1 : Nat) : Int) := by omega
      have w : IntKind.i64.wrap (c.toNat : Int) = c.toNat := wrap_i64 (by omega) (by have := c.toNat_lt; omega)
      have w2 : IntKind.i64.wrap 1 = 1 := by decide
      simp (maxDischargeDepth := 9) only [bnd_some, beff_some, bcall_ret, cells_int, cells_agg, scalL_nil, scalL_cons, scal_int, scal_str, scal_nils, mr_int, mr_str, mr_nils, mr_agg, mrL_nil, mrL_cons, storeB_var, splice_zero, hget_at, hset_at, oVar_c, oBuild_nil, oBuild_cons, buildB_some, if_true, if_false, List.drop_zero, List.drop_succ_cons, List.length_cons, List.length_nil, Nat.zero_add, Bool.and_true, Bool.false_eq_true, List.append_nil, List.nil_append, List.cons_append, Nat.reduceAdd, hset_length, oStore_ptr, List.drop_nil, le_s, Nat.le_refl, Nat.zero_le, or_true, and_self, Nat.max_self, i1, List.getElem?_cons_zero, List.getElem?_cons_succ]
      rw [ref03_reader_text_l1_eq]
      simp (maxDischargeDepth := 9) only [bnd_some, beff_some, cnd_true, cnd_false, gua_yes, oMove_v, oPick_t, oFieldPtr_ptr, oUn_not, oLenStr_str, oBin_add, oBin_lss, oBin_sneq, loadB_var, takeCells_1, oIndexStr_0, cells_int, scalL_nil, scalL_cons, scal_int, mr_int, storeB_var, splice_zero, hget_at, hset_at, decide_true, decide_false, Bool.not_false, if_true, List.drop_zero, List.drop_succ_cons, List.length_cons, List.length_nil, Nat.add_zero, Nat.zero_add, reduceCtorEq, Bool.and_true, List.nil_append, List.cons_append, Nat.reduceAdd, Int.reduceAdd, hset_length, oLoad_ptr, oStore_ptr, le_s, Nat.le_refl, Nat.zero_le, or_true, and_self, n1]
      rw [ref03_reader_text_l2_eq]
      simp (maxDischargeDepth := 9) only [bnd_some, beff_some, cnd_true, oFieldPtr_ptr, oIntTo_int, oLenStr_str, oBin_add, oBin_lss, loadB_var, takeCells_1, oIndexStr_0, cells_rs, scalL_nil, scalL_cons, scal_rs, mr_rs, storeB_var, splice_zero, splice_succ, hget_o, hset_o, hget_at, hset_at, oLit_int, decide_true, if_true, List.drop_zero, List.drop_succ_cons, List.length_cons, List.length_nil, Nat.zero_add, Bool.and_true, List.nil_append, List.cons_append, Nat.reduceAdd, hset_length, Nat.reduceLeDiff, oLoad_ptr, oStore_ptr, le_s, Nat.le_refl, Nat.lt_add_one, true_or, and_self, n1, w, append_int_nil, w2, Int.zero_add, l2]
      simp [Rd.exact]
end Go.Proofs.Ytjnnegacjmcdbaa
end

