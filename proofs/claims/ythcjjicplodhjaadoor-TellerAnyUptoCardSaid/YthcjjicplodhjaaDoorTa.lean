/- Ta: a part of the proof that each law of this seat answers true at every input. No condition. -/
import Derived.Test.YthcjjicplodhjaaDoorHint
import Derived.Test.YthcjjicplodhjaaDoorFns
import Derived.Test.YthcjjicplodhjaaDoorEvH
import Derived.Test.YthcjjicplodhjaaDoorEnc
import Derived.Test.YthcjjicplodhjaaDoorTe
set_option linter.unusedVariables false
set_option linter.unusedSimpArgs false
set_option maxRecDepth 20000
section
/- Names, and texts whose letters are alike: the teller and the document. -/
namespace Go.Proofs.YthcjjicplodhjaaDoor
open Go Go.Ev
set_option linter.unusedVariables false
set_option linter.unusedSimpArgs false

theorem r4_letter (c : UInt8) (H : Heap) : E n_ref04_letter [.int .u8 c.toNat] H = some (.ret (.bool (Te.letter c)), H) := by
  rw [ref04_letter_E, ref04_letter_eq]
  have e : Te.letter c = (decide ((97 : Int) ≤ (c.toNat : Int)) && decide ((c.toNat : Int) ≤ 122)) := by
    unfold Te.letter; rw [Bool.eq_iff_iff]; simp only [Bool.and_eq_true, decide_eq_true_eq]; omega
  rw [e]
  cases h1 : decide ((97 : Int) ≤ (c.toNat : Int)) <;> cases h2 : decide ((c.toNat : Int) ≤ 122) <;> simp (maxDischargeDepth := 9) only [bnd_some, gua_yes, gua_ft, oMove_v, oPick_t, oPick_f, oBin_leq, oBin_geq, htrunc_self, rt_bool, Bool.and_true, Bool.and_false, h1, h2]
theorem r4_digit (c : UInt8) (H : Heap) : E n_ref04_digit [.int .u8 c.toNat] H = some (.ret (.bool (Te.digit c)), H) := by
  rw [ref04_digit_E, ref04_digit_eq]
  have e : Te.digit c = (decide ((48 : Int) ≤ (c.toNat : Int)) && decide ((c.toNat : Int) ≤ 57)) := by
    unfold Te.digit; rw [Bool.eq_iff_iff]; simp only [Bool.and_eq_true, decide_eq_true_eq]; omega
  rw [e]
  cases h1 : decide ((48 : Int) ≤ (c.toNat : Int)) <;> cases h2 : decide ((c.toNat : Int) ≤ 57) <;> simp (maxDischargeDepth := 9) only [bnd_some, gua_yes, gua_ft, oMove_v, oPick_t, oPick_f, oBin_leq, oBin_geq, htrunc_self, rt_bool, Bool.and_true, Bool.and_false, h1, h2]
theorem str_at {s : List UInt8} {i : Nat} (h : i < s.length) (k : IntKind) : oIndexStr (.str s) (.int k (i : Int)) = some (.int .u8 s[i].toNat) :=
  oIndexStr_at (by omega) (by simp [h])
theorem wrap_in {i n : Nat} (h : i < n) (hn : n ≤ 9223372036854775807) : IntKind.i64.wrap ((i : Int) + 1) = ((i + 1 : Nat) : Int) := by
  rw [wrap_i64 (by omega) (by omega)]; omega
theorem drop_at {s : List UInt8} {i : Nat} (h : i < s.length) : s.drop i = s[i] :: s.drop (i + 1) := List.drop_eq_getElem_cons h

theorem r4_Name_l {s : List UInt8} (hs : s.length ≤ 9223372036854775807) {H : Heap} : ∀ (m i : Nat), s.length - i = m → i ≤ s.length →
    ref04_Name_l1 H.length (.str s) (.int .i64 i) H = some (.ret (.bool ((s.drop i).all Te.part)), H)
  | m, i, hm, hi => by
    rw [ref04_Name_l1_eq]
    by_cases h : i < s.length
    · have h' : (i : Int) < (s.length : Int) := by omega
      obtain ⟨m, rfl⟩ : ∃ k, m = k + 1 := ⟨m - 1, by omega⟩
      have ih := r4_Name_l hs (H := H) m (i + 1) (by omega) (by omega)
      rw [drop_at h, List.all_cons]
      have h45 : (s[i].toNat == 45) = decide ((s[i].toNat : Int) = 45) := by rw [Bool.eq_iff_iff]; simp only [beq_iff_eq, decide_eq_true_eq]; omega
      simp only [Te.part, h45]
      cases h1 : Te.letter s[i] <;> cases h2 : Te.digit s[i] <;> cases h3 : decide ((s[i].toNat : Int) = 45) <;> simp (maxDischargeDepth := 9) only [bnd_some, bcall_ret, cnd_true, cnd_false, gua_yes, gua_ft, oMove_v, oPick_t, oPick_f, oUn_not, oLenStr_str, oBin_add, oBin_neq, oBin_lss, htrunc_self, rt_bool, decide_true, Bool.not_true, Bool.not_false, Bool.true_and, Bool.false_and, Bool.or_true, Bool.or_false, h', str_at h, r4_letter, r4_digit, h1, h2, h3, wrap_in h hs, ih]
    · have h' : ¬ (i : Int) < (s.length : Int) := by omega
      rw [List.drop_of_length_le (by omega)]
      simp (maxDischargeDepth := 9) only [bnd_some, cnd_false, oMove_v, oLenStr_str, oBin_add, oBin_lss, htrunc_self, rt_bool, decide_false, h', List.all_nil]
theorem r4_Name {s : List UInt8} (hs : s.length ≤ 9223372036854775807) (H : Heap) : E n_ref04_Name [.str s] H = some (.ret (.bool (Te.name s)), H) := by
  rw [ref04_Name_E, ref04_Name_eq]
  cases s with
  | nil => simp (maxDischargeDepth := 9) only [bnd_some, bcall_ret, cnd_true, gua_tf, oMove_v, oPick_t, oBin_seql, htrunc_self, rt_bool, decide_true, Te.name]
  | cons c s =>
    have hne : ¬ (c :: s) = [] := by simp
    have k := r4_Name_l hs (H := H) (c :: s).length 0 rfl (Nat.zero_le _)
    rw [List.drop_zero] at k
    simp only [cast_lit] at k
    unfold Te.name
    by_cases h : (40 : Int) < ((s.length + 1 : Nat) : Int)
    · have h2 : ¬ (c :: s).length ≤ 40 := by simp only [List.length_cons]; omega
      rw [decide_eq_false h2]
      simp (maxDischargeDepth := 9) only [bnd_some, bcall_ret, cnd_true, gua_yes, gua_tf, oMove_v, oPick_t, oPick_f, oLenStr_str, oBin_gtr, oBin_seql, htrunc_self, rt_bool, decide_true, decide_false, List.length_cons, Bool.false_and, hne, h]
    · have h2 : (c :: s).length ≤ 40 := by simp only [List.length_cons]; omega
      rw [decide_eq_true h2]
      cases h1 : Te.letter c <;> simp (maxDischargeDepth := 9) only [bnd_some, bcall_ret, cnd_true, cnd_false, gua_yes, oMove_v, oPick_f, oUn_not, oLenStr_str, oBin_gtr, oBin_seql, htrunc_self, rt_bool, oIndexStr_0, decide_false, Bool.not_true, Bool.not_false, List.length_cons, Bool.and_true, Bool.true_and, Bool.false_and, Bool.and_false, hne, h, r4_letter, h1, k]

theorem r4_fold_l {s : List UInt8} (hs : s.length ≤ 9223372036854775807) {H : Heap} : ∀ (m i : Nat), s.length - i = m → i ≤ s.length →
    ref04_fold_l1 H.length (.str s) (.int .i64 i) H = some (.ret (.bool ((s.drop i).all Te.foldC)), H)
  | m, i, hm, hi => by
    rw [ref04_fold_l1_eq]
    by_cases h : i < s.length
    · have h' : (i : Int) < (s.length : Int) := by omega
      obtain ⟨m, rfl⟩ : ∃ k, m = k + 1 := ⟨m - 1, by omega⟩
      have ih := r4_fold_l hs (H := H) m (i + 1) (by omega) (by omega)
      rw [drop_at h, List.all_cons]
      have e : Te.foldC s[i] = (!decide ((s[i].toNat : Int) < 32) && !decide ((126 : Int) < (s[i].toNat : Int)) && !decide ((s[i].toNat : Int) = 34) && !(decide ((65 : Int) ≤ (s[i].toNat : Int)) && decide ((s[i].toNat : Int) ≤ 90))) := by
        unfold Te.foldC; rw [Bool.eq_iff_iff]; simp only [Bool.and_eq_true, Bool.not_eq_true', decide_eq_true_eq, decide_eq_false_iff_not, beq_eq_false_iff_ne, Bool.and_eq_false_iff]; omega
      rw [e]
      cases h1 : decide ((s[i].toNat : Int) < 32) <;> cases h2 : decide ((126 : Int) < (s[i].toNat : Int)) <;> cases h3 : decide ((s[i].toNat : Int) = 34) <;> cases h4 : decide ((65 : Int) ≤ (s[i].toNat : Int)) <;> cases h5 : decide ((s[i].toNat : Int) ≤ 90) <;> simp (maxDischargeDepth := 9) only [bnd_some, cnd_true, cnd_false, gua_yes, gua_tf, gua_ft, gua_tup, oMove_v, oPick_t, oPick_f, oLenStr_str, oBin_add, oBin_eql, oBin_lss, oBin_leq, oBin_gtr, oBin_geq, htrunc_self, rt_bool, decide_true, Bool.not_true, Bool.not_false, Bool.and_true, Bool.true_and, Bool.false_and, Bool.and_false, h', str_at h, h1, h2, h3, h4, h5, wrap_in h hs, ih]
    · have h' : ¬ (i : Int) < (s.length : Int) := by omega
      rw [List.drop_of_length_le (by omega)]
      simp (maxDischargeDepth := 9) only [bnd_some, cnd_false, oMove_v, oLenStr_str, oBin_add, oBin_lss, htrunc_self, rt_bool, decide_false, h', List.all_nil]
theorem r4_fold {s : List UInt8} (hs : s.length ≤ 9223372036854775807) (H : Heap) : E n_ref04_fold [.str s] H = some (.ret (.bool (Te.fold s)), H) := by
  rw [ref04_fold_E, ref04_fold_eq]
  have k := r4_fold_l hs (H := H) s.length 0 rfl (Nat.zero_le _)
  simp only [cast_lit, List.drop_zero] at k
  exact k
end Go.Proofs.YthcjjicplodhjaaDoor
end

section
/- Names, and texts whose letters are alike: the teller. -/
namespace Go.Proofs.YthcjjicplodhjaaDoor
open Go Go.Ev
set_option linter.unusedVariables false
set_option linter.unusedSimpArgs false

theorem idxB_mem (c : UInt8) : ∀ s : List UInt8, 0 ≤ idxB s (c.toNat : Int) ↔ c ∈ s
  | [] => by simp [idxB]
  | a :: s => by
    have ih := idxB_mem c s
    have he : ((a.toNat : Int) = (c.toNat : Int)) ↔ c = a := by
      rw [show ((a.toNat : Int) = (c.toNat : Int)) ↔ a.toNat = c.toNat by omega, UInt8.toNat_inj]
      exact eq_comm
    unfold idxB
    rw [List.mem_cons, ← ih]
    by_cases h : (a.toNat : Int) = (c.toNat : Int)
    · rw [if_pos h]; simp [he.1 h]
    · rw [if_neg h]
      have hne : ¬ c = a := fun x => h (he.2 x)
      by_cases hn : idxB s (c.toNat : Int) < 0
      · rw [if_pos hn]; simp [hne]; omega
      · rw [if_neg hn]; simp [hne]; omega
theorem i4_IndexByte (s : List UInt8) (c : UInt8) (H : Heap) : E n_strings_IndexByte [.str s, .int .u8 c.toNat] H = some (.ret (.int .i64 (idxB s c.toNat)), H) := by
  rw [show E = EV Tryd.prog hint D from rfl, EV_intr (g := iIndexByte) rfl]
  have hc := c.toNat_lt
  exact if_pos ⟨by omega, by omega⟩
theorem mem_letters (c : UInt8) : c ∈ ([97, 98, 99, 100, 101, 102, 103, 104, 105, 106, 107, 108, 109, 110, 111, 112, 113, 114, 115, 116, 117, 118, 119, 120, 121, 122] : List UInt8) ↔ Te.letter c = true := by
  simp only [List.mem_cons, List.not_mem_nil, or_false, ← UInt8.toNat_inj, Te.letter, Bool.and_eq_true, decide_eq_true_eq]
  simp only [UInt8.reduceToNat]
  omega
theorem mem_parts (c : UInt8) : c ∈ ([97, 98, 99, 100, 101, 102, 103, 104, 105, 106, 107, 108, 109, 110, 111, 112, 113, 114, 115, 116, 117, 118, 119, 120, 121, 122, 48, 49, 50, 51, 52, 53, 54, 55, 56, 57, 45] : List UInt8) ↔ Te.part c = true := by
  simp only [List.mem_cons, List.not_mem_nil, or_false, ← UInt8.toNat_inj, Te.part, Te.letter, Te.digit, Bool.and_eq_true, Bool.or_eq_true, decide_eq_true_eq, beq_iff_eq]
  simp only [UInt8.reduceToNat]
  omega
theorem c4_plain_l {s q : List UInt8} (hs : s.length ≤ 9223372036854775807) {H : Heap} : ∀ (m i : Nat), s.length - i = m → i ≤ s.length →
    teller_plain_l1 H.length (.str s) (.str q) (.int .i64 s.length) (.int .i64 i) H = some (.ret (.bool ((s.drop i).all fun c => decide (c ∈ q))), H)
  | m, i, hm, hi => by
    rw [teller_plain_l1_eq]
    by_cases h : i < s.length
    · have h' : (i : Int) < (s.length : Int) := by omega
      obtain ⟨m, rfl⟩ : ∃ k, m = k + 1 := ⟨m - 1, by omega⟩
      have ih := c4_plain_l (q := q) hs (H := H) m (i + 1) (by omega) (by omega)
      rw [drop_at h, List.all_cons]
      by_cases h1 : s[i] ∈ q
      · have h2 : ¬ idxB q (s[i].toNat : Int) < 0 := by have := (idxB_mem s[i] q).2 h1; omega
        rw [decide_eq_true h1]
        simp (maxDischargeDepth := 9) only [bnd_some, bcall_ret, cnd_true, cnd_false, oBin_add, oBin_lss, htrunc_self, rt_bool, decide_true, decide_false, Bool.true_and, h', str_at h, i4_IndexByte, h2, wrap_in h hs, ih]
      · have h2 : idxB q (s[i].toNat : Int) < 0 := by have := mt (idxB_mem s[i] q).1 h1; omega
        rw [decide_eq_false h1]
        simp (maxDischargeDepth := 9) only [bnd_some, bcall_ret, cnd_true, oBin_add, oBin_lss, htrunc_self, rt_bool, decide_true, Bool.false_and, h', str_at h, i4_IndexByte, h2]
    · have h' : ¬ (i : Int) < (s.length : Int) := by omega
      rw [List.drop_of_length_le (by omega)]
      simp (maxDischargeDepth := 9) only [bnd_some, cnd_false, oBin_add, oBin_lss, htrunc_self, rt_bool, decide_false, h', List.all_nil]
theorem c4_plain {s q : List UInt8} (hs : s.length ≤ 9223372036854775807) (H : Heap) : E n_teller_plain [.str s, .str q] H = some (.ret (.bool (s.all fun c => decide (c ∈ q))), H) := by
  rw [teller_plain_E, teller_plain_eq]
  have k := c4_plain_l (q := q) hs (H := H) s.length 0 rfl (Nat.zero_le _)
  simp only [cast_lit, List.drop_zero] at k
  simp (maxDischargeDepth := 9) only [bnd_some, oLenStr_str, k]
theorem all_parts (s : List UInt8) : (s.all fun c => decide (c ∈ ([97, 98, 99, 100, 101, 102, 103, 104, 105, 106, 107, 108, 109, 110, 111, 112, 113, 114, 115, 116, 117, 118, 119, 120, 121, 122, 48, 49, 50, 51, 52, 53, 54, 55, 56, 57, 45] : List UInt8))) = s.all Te.part := by
  have e : (fun c : UInt8 => decide (c ∈ ([97, 98, 99, 100, 101, 102, 103, 104, 105, 106, 107, 108, 109, 110, 111, 112, 113, 114, 115, 116, 117, 118, 119, 120, 121, 122, 48, 49, 50, 51, 52, 53, 54, 55, 56, 57, 45] : List UInt8))) = Te.part := by
    funext c
    rw [Bool.eq_iff_iff, decide_eq_true_eq]
    exact mem_parts c
  rw [e]
theorem c4_Name {s : List UInt8} (hs : s.length ≤ 9223372036854775807) (H : Heap) : E n_teller_Name [.str s] H = some (.ret (.bool (Te.name s)), H) := by
  rw [teller_Name_E, teller_Name_eq]
  cases s with
  | nil => simp (maxDischargeDepth := 9) only [bnd_some, bcall_ret, gua_ft, oMove_v, oPick_f, oBin_sneq, htrunc_self, rt_bool, decide_true, Bool.not_true, Te.name]
  | cons c s =>
    have hne : ¬ (c :: s) = [] := by simp
    have k := c4_plain (q := [97, 98, 99, 100, 101, 102, 103, 104, 105, 106, 107, 108, 109, 110, 111, 112, 113, 114, 115, 116, 117, 118, 119, 120, 121, 122, 48, 49, 50, 51, 52, 53, 54, 55, 56, 57, 45]) hs H
    rw [all_parts] at k
    dsimp only at k
    unfold Te.name
    by_cases h : ((s.length + 1 : Nat) : Int) ≤ (40 : Int)
    · have h2 : (c :: s).length ≤ 40 := by simp only [List.length_cons]; omega
      rw [decide_eq_true h2]
      have hl := (idxB_mem c [97, 98, 99, 100, 101, 102, 103, 104, 105, 106, 107, 108, 109, 110, 111, 112, 113, 114, 115, 116, 117, 118, 119, 120, 121, 122]).trans (mem_letters c)
      cases h1 : Te.letter c with
      | true =>
        rw [h1] at hl
        have h3 := hl.2 rfl
        simp (maxDischargeDepth := 9) only [bnd_some, bcall_ret, gua_yes, oMove_v, oPick_t, oLenStr_str, oBin_leq, oBin_geq, oBin_sneq, htrunc_self, rt_bool, oIndexStr_0, decide_true, decide_false, Bool.not_false, List.length_cons, Bool.and_true, Bool.true_and, hne, h, i4_IndexByte, h3, k, h1]
      | false =>
        rw [h1] at hl
        have h3 := mt hl.1 (by simp)
        simp (maxDischargeDepth := 9) only [bnd_some, bcall_ret, gua_yes, gua_ft, oMove_v, oPick_t, oPick_f, oLenStr_str, oBin_leq, oBin_geq, oBin_sneq, htrunc_self, rt_bool, oIndexStr_0, decide_true, decide_false, Bool.not_false, List.length_cons, Bool.false_and, Bool.and_false, hne, h, i4_IndexByte, h3, h1]
    · have h2 : ¬ (c :: s).length ≤ 40 := by simp only [List.length_cons]; omega
      rw [decide_eq_false h2]
      simp (maxDischargeDepth := 9) only [bnd_some, bcall_ret, gua_yes, gua_ft, oMove_v, oPick_t, oPick_f, oLenStr_str, oBin_leq, oBin_sneq, htrunc_self, rt_bool, decide_false, Bool.not_false, List.length_cons, Bool.false_and, hne, h]

theorem c4_folded_l {s : List UInt8} (hs : s.length ≤ 9223372036854775807) {H : Heap} : ∀ (m i : Nat), s.length - i = m → i ≤ s.length →
    teller_folded_l1 H.length (.str s) (.int .i64 s.length) (.int .i64 i) H = some (.ret (.bool ((s.drop i).all Te.foldC)), H)
  | m, i, hm, hi => by
    rw [teller_folded_l1_eq]
    by_cases h : i < s.length
    · have h' : (i : Int) < (s.length : Int) := by omega
      obtain ⟨m, rfl⟩ : ∃ k, m = k + 1 := ⟨m - 1, by omega⟩
      have ih := c4_folded_l hs (H := H) m (i + 1) (by omega) (by omega)
      rw [drop_at h, List.all_cons]
      have e : Te.foldC s[i] = (!decide ((s[i].toNat : Int) < 32) && !decide ((126 : Int) < (s[i].toNat : Int)) && !decide ((s[i].toNat : Int) = 34) && !(decide ((65 : Int) ≤ (s[i].toNat : Int)) && decide ((s[i].toNat : Int) ≤ 90))) := by
        unfold Te.foldC; rw [Bool.eq_iff_iff]; simp only [Bool.and_eq_true, Bool.not_eq_true', decide_eq_true_eq, decide_eq_false_iff_not, beq_eq_false_iff_ne, Bool.and_eq_false_iff]; omega
      rw [e]
      cases h1 : decide ((s[i].toNat : Int) < 32) <;> cases h2 : decide ((126 : Int) < (s[i].toNat : Int)) <;> cases h3 : decide ((s[i].toNat : Int) = 34) <;> cases h4 : decide ((65 : Int) ≤ (s[i].toNat : Int)) <;> cases h5 : decide ((s[i].toNat : Int) ≤ 90) <;> simp (maxDischargeDepth := 9) only [bnd_some, cnd_true, cnd_false, gua_yes, gua_tf, gua_ft, gua_tup, oMove_v, oPick_t, oPick_f, oBin_add, oBin_eql, oBin_lss, oBin_leq, oBin_gtr, oBin_geq, htrunc_self, rt_bool, decide_true, Bool.not_true, Bool.not_false, Bool.and_true, Bool.true_and, Bool.false_and, Bool.and_false, h', str_at h, h1, h2, h3, h4, h5, wrap_in h hs, ih]
    · have h' : ¬ (i : Int) < (s.length : Int) := by omega
      rw [List.drop_of_length_le (by omega)]
      simp (maxDischargeDepth := 9) only [bnd_some, cnd_false, oMove_v, oBin_add, oBin_lss, htrunc_self, rt_bool, decide_false, h', List.all_nil]
theorem c4_folded {s : List UInt8} (hs : s.length ≤ 9223372036854775807) (H : Heap) : E n_teller_folded [.str s] H = some (.ret (.bool (Te.fold s)), H) := by
  rw [teller_folded_E, teller_folded_eq]
  have k := c4_folded_l hs (H := H) s.length 0 rfl (Nat.zero_le _)
  simp only [cast_lit, List.drop_zero] at k
  simp (maxDischargeDepth := 9) only [bnd_some, oLenStr_str, k]
  rfl
end Go.Proofs.YthcjjicplodhjaaDoor
end

section
/- Numbers, and expressions that are right: the document. -/
namespace Go.Proofs.YthcjjicplodhjaaDoor
open Go Go.Ev
set_option linter.unusedVariables false
set_option linter.unusedSimpArgs false

theorem idxE {l : List Int} {i : Nat} (h : i < l.length) (k : IntKind) : oIndexPtr 1 (.vs (l.map (V.int .i64))) (.int k (i : Int)) = some (.fptr [.int .i64 l[i]]) :=
  oIndexPtr_vs (y := .int .i64 l[i]) (by simp [h]) rfl
theorem r4_nums_l {l : List Int} (hl : l.length ≤ 9223372036854775807) {a b : Nat} {H : Heap} : ∀ (m i : Nat), l.length - i = m → i ≤ l.length →
    ref04_nums_l1 H.length (encI l) (.int .i64 a) (.int .i64 b) (.int .i64 i) H = some (.ret (.bool ((l.drop i).all Te.numC && (decide (a ≤ l.length) && decide (l.length ≤ b)))), H)
  | m, i, hm, hi => by
    rw [ref04_nums_l1_eq, encI]
    by_cases h : i < l.length
    · have h' : (i : Int) < (l.length : Int) := by omega
      obtain ⟨m, rfl⟩ : ∃ k, m = k + 1 := ⟨m - 1, by omega⟩
      have ih := r4_nums_l hl (a := a) (b := b) (H := H) m (i + 1) (by omega) (by omega)
      rw [encI] at ih
      rw [List.drop_eq_getElem_cons h, List.all_cons]
      have e : Te.numC l[i] = (!decide (l[i] < 0) && !decide (1114111 < l[i])) := by
        unfold Te.numC; rw [Bool.eq_iff_iff]; simp only [Bool.and_eq_true, Bool.not_eq_true', decide_eq_true_eq, decide_eq_false_iff_not]; omega
      rw [e]
      cases h1 : decide (l[i] < 0) <;> cases h2 : decide (1114111 < l[i]) <;> simp (maxDischargeDepth := 9) only [bnd_some, cnd_true, cnd_false, gua_yes, gua_tf, oMove_v, oPick_t, oPick_f, oLenSl_vs, oBin_add, oBin_lss, oBin_gtr, oBin_geq, htrunc_self, oLoad_fptr, takeCells_1, rt_bool, decide_true, Bool.not_true, Bool.not_false, Bool.and_true, Bool.true_and, Bool.false_and, Bool.and_false, List.length_map, h', idxE h, h1, h2, wrap_in h hl, ih]
    · have h' : ¬ (i : Int) < (l.length : Int) := by omega
      rw [List.drop_of_length_le (by omega)]
      have e1 : decide (a ≤ l.length) = decide ((a : Int) ≤ (l.length : Int)) := by rw [Bool.eq_iff_iff]; simp
      have e2 : decide (l.length ≤ b) = decide ((l.length : Int) ≤ (b : Int)) := by rw [Bool.eq_iff_iff]; simp
      rw [e1, e2]
      cases h1 : decide ((a : Int) ≤ (l.length : Int)) <;> cases h2 : decide ((l.length : Int) ≤ (b : Int)) <;> simp (maxDischargeDepth := 9) only [bnd_some, cnd_false, gua_yes, gua_ft, oMove_v, oPick_t, oPick_f, oLenSl_vs, oBin_add, oBin_lss, oBin_leq, oBin_geq, htrunc_self, rt_bool, decide_false, Bool.and_true, Bool.and_false, List.length_map, h', h1, h2, List.all_nil]
theorem r4_nums {l : List Int} (hl : l.length ≤ 9223372036854775807) (a b : Nat) (H : Heap) : E n_ref04_nums [encI l, .int .i64 a, .int .i64 b] H = some (.ret (.bool (Te.nums l a b)), H) := by
  rw [ref04_nums_E, ref04_nums_eq]
  have k := r4_nums_l hl (a := a) (b := b) (H := H) l.length 0 rfl (Nat.zero_le _)
  simp only [cast_lit, List.drop_zero] at k
  exact k
end Go.Proofs.YthcjjicplodhjaaDoor
end

section
/- Expressions that are right: the document. -/
namespace Go.Proofs.YthcjjicplodhjaaDoor
open Go Go.Ev
set_option linter.unusedVariables false
set_option linter.unusedSimpArgs false

theorem r4_Right_j (b : Nat) (H : Heap) : ref04_Right_j2 b H = some (.ret (.bool false), htrunc H b) := by
  rw [ref04_Right_j2_eq]
  simp (maxDischargeDepth := 9) only [rt_bool]
theorem lenI (l : List Int) : oLenSl (encI l) = some (.int .i64 l.length) := by simp [encI]
theorem lenE (l : List Rd.Expr) : oLenSl (.vs (encEs l)) = some (.int .i64 l.length) := by simp [encEs_map]
theorem nilI (n : List Int) : decide (n = []) = !decide ((0 : Int) < (n.length : Int)) := by
  cases n with
  | nil => rfl
  | cons a n =>
    have : (0 : Int) < (((a :: n).length : Nat) : Int) := by simp only [List.length_cons]; omega
    rw [decide_eq_true this]; rfl
/-- Behind the kids: the expression by itself. -/
theorem r4_Right_t {k lo hi : Int} {t : List UInt8} {n : List Int} {ks : List Rd.Expr} {d : V} {H : Heap} (ht : t.length ≤ 9223372036854775807) (hn : n.length ≤ 9223372036854775807) (h12 : k = 1 ∨ k = 2) :
    ref04_Right_l1 H.length d (.ptr H.length 0 0) (.int .i64 ks.length) (.var [.int .i64 k, .str t, encI n, .int .i64 lo, .int .i64 hi, .vs (encEs ks)] :: H) = some (.ret (.bool (Te.own k t n lo hi ks.length)), H) := by
  have hx : ¬ (ks.length : Int) < (ks.length : Int) := by omega
  have hc : decide (1 < ks.length) = decide ((1 : Int) < (ks.length : Int)) := by rw [Bool.eq_iff_iff]; simp only [decide_eq_true_eq]; omega
  rw [ref04_Right_l1_eq]
  unfold Te.own
  rw [if_pos h12, nilI, hc]
  rcases h12 with rfl | rfl <;>
  cases hT : decide (t = []) <;> cases hN : decide ((0 : Int) < (n.length : Int)) <;> cases h1 : decide (lo = 0) <;> cases h2 : decide (hi = 0) <;> cases h3 : decide ((1 : Int) < (ks.length : Int)) <;>
    simp (maxDischargeDepth := 9) only [bnd_some, cnd_true, cnd_false, gua_yes, gua_tf, gua_tup, oMove_v, oPick_t, oPick_f, oFieldPtr_ptr, oUn_not, oLenSl_vs, oBin_add, oBin_eql, oBin_neq, oBin_lss, oBin_gtr, oBin_sneq, htrunc_self, loadB_var, takeCells_1, rt_bool, htrunc_c, hget_at, decide_true, decide_false, Bool.not_true, Bool.not_false, List.drop_zero, List.drop_succ_cons, Nat.add_zero, Nat.zero_add, Bool.and_true, Bool.and_false, oLoad_ptr, Nat.le_refl, lenI, encEs_map, List.length_map, hx, hT, hN, h1, h2, h3, Int.reduceEq, Int.reduceLT, Int.reduceLE]
end Go.Proofs.YthcjjicplodhjaaDoor
end

section
/- Expressions that are right, kind by kind: the document. -/
namespace Go.Proofs.YthcjjicplodhjaaDoor
open Go Go.Ev
set_option linter.unusedVariables false
set_option linter.unusedSimpArgs false

theorem r4_Right_t3 {lo hi : Int} {t : List UInt8} {n : List Int} {ks : List Rd.Expr} {d : V} {H : Heap} (ht : t.length ≤ 9223372036854775807) (hn : n.length ≤ 9223372036854775807) :
    ref04_Right_l1 H.length d (.ptr H.length 0 0) (.int .i64 ks.length) (.var [.int .i64 3, .str t, encI n, .int .i64 lo, .int .i64 hi, .vs (encEs ks)] :: H) = some (.ret (.bool (Te.own 3 t n lo hi ks.length)), H) := by
  have hx : ¬ (ks.length : Int) < (ks.length : Int) := by omega
  have hc : decide (ks.length = 1) = decide ((ks.length : Int) = 1) := by rw [Bool.eq_iff_iff]; simp only [decide_eq_true_eq]; omega
  rw [ref04_Right_l1_eq]
  unfold Te.own
  rw [if_neg (by omega), if_pos rfl, nilI, hc]
  cases hT : decide (t = []) with
  | false => simp (maxDischargeDepth := 9) only [bnd_some, cnd_true, cnd_false, gua_yes, gua_tf, gua_tup, oMove_v, oPick_t, oPick_f, oFieldPtr_ptr, oUn_not, oLenSl_vs, oBin_add, oBin_eql, oBin_lss, oBin_gtr, oBin_sneq, htrunc_self, loadB_var, takeCells_1, rt_bool, htrunc_c, hget_at, decide_true, decide_false, Bool.not_false, List.drop_zero, List.drop_succ_cons, Nat.add_zero, Nat.zero_add, Bool.false_and, oLoad_ptr, Nat.le_refl, lenI, encEs_map, List.length_map, hx, hT, Int.reduceEq, Int.reduceLT, Int.reduceLE]
  | true =>
    cases hN : decide ((0 : Int) < (n.length : Int)) with
    | true => simp (maxDischargeDepth := 9) only [bnd_some, cnd_true, cnd_false, gua_yes, gua_tf, gua_tup, oMove_v, oPick_t, oPick_f, oFieldPtr_ptr, oUn_not, oLenSl_vs, oBin_add, oBin_eql, oBin_lss, oBin_gtr, oBin_sneq, htrunc_self, loadB_var, takeCells_1, rt_bool, htrunc_c, hget_at, decide_true, decide_false, Bool.not_true, Bool.not_false, List.drop_zero, List.drop_succ_cons, Nat.add_zero, Nat.zero_add, Bool.false_and, Bool.and_false, oLoad_ptr, Nat.le_refl, lenI, encEs_map, List.length_map, hx, hT, hN, Int.reduceEq, Int.reduceLT, Int.reduceLE]
    | false =>
      cases h1 : decide ((ks.length : Int) = 1) with
      | false => simp (maxDischargeDepth := 9) only [bnd_some, cnd_true, cnd_false, gua_yes, gua_ft, gua_tup, oMove_v, oPick_t, oPick_f, oFieldPtr_ptr, oUn_not, oLenSl_vs, oBin_add, oBin_eql, oBin_neq, oBin_lss, oBin_gtr, oBin_sneq, htrunc_self, loadB_var, takeCells_1, rt_bool, htrunc_c, hget_at, decide_true, decide_false, Bool.not_true, Bool.not_false, List.drop_zero, List.drop_succ_cons, Nat.add_zero, Nat.zero_add, Bool.and_true, Bool.false_and, Bool.and_false, oLoad_ptr, Nat.le_refl, lenI, encEs_map, List.length_map, hx, hT, hN, h1, Int.reduceEq, Int.reduceLT, Int.reduceLE]
      | true =>
        cases h2 : decide (0 ≤ lo) with
        | false => simp (maxDischargeDepth := 9) only [bnd_some, cnd_true, cnd_false, gua_yes, gua_ft, gua_tup, oMove_v, oPick_t, oPick_f, oFieldPtr_ptr, oUn_not, oLenSl_vs, oBin_add, oBin_eql, oBin_neq, oBin_lss, oBin_gtr, oBin_geq, oBin_sneq, htrunc_self, loadB_var, takeCells_1, rt_bool, htrunc_c, hget_at, decide_true, decide_false, Bool.not_true, Bool.not_false, List.drop_zero, List.drop_succ_cons, Nat.add_zero, Nat.zero_add, Bool.and_true, Bool.false_and, Bool.and_false, oLoad_ptr, Nat.le_refl, lenI, encEs_map, List.length_map, hx, hT, hN, h1, h2, Int.reduceEq, Int.reduceLT, Int.reduceLE]
        | true =>
          cases h3 : decide (lo ≤ 200) with
          | false => simp (maxDischargeDepth := 9) only [bnd_some, cnd_true, cnd_false, gua_yes, gua_ft, gua_tup, oMove_v, oPick_t, oPick_f, oFieldPtr_ptr, oUn_not, oLenSl_vs, oBin_add, oBin_eql, oBin_neq, oBin_lss, oBin_leq, oBin_gtr, oBin_geq, oBin_sneq, htrunc_self, loadB_var, takeCells_1, rt_bool, htrunc_c, hget_at, decide_true, decide_false, Bool.not_true, Bool.not_false, List.drop_zero, List.drop_succ_cons, Nat.add_zero, Nat.zero_add, Bool.and_true, Bool.false_and, Bool.and_false, oLoad_ptr, Nat.le_refl, lenI, encEs_map, List.length_map, hx, hT, hN, h1, h2, h3, Int.reduceEq, Int.reduceLT, Int.reduceLE]
          | true =>
            cases h4 : decide (hi ≤ 200) with
            | false => simp (maxDischargeDepth := 9) only [bnd_some, cnd_true, cnd_false, gua_yes, gua_ft, gua_tup, oMove_v, oPick_t, oPick_f, oFieldPtr_ptr, oUn_not, oLenSl_vs, oBin_add, oBin_eql, oBin_neq, oBin_lss, oBin_leq, oBin_gtr, oBin_geq, oBin_sneq, htrunc_self, loadB_var, takeCells_1, rt_bool, htrunc_c, hget_at, decide_true, decide_false, Bool.not_true, Bool.not_false, List.drop_zero, List.drop_succ_cons, Nat.add_zero, Nat.zero_add, Bool.and_true, Bool.false_and, Bool.and_false, oLoad_ptr, Nat.le_refl, lenI, encEs_map, List.length_map, hx, hT, hN, h1, h2, h3, h4, Int.reduceEq, Int.reduceLT, Int.reduceLE]
            | true =>
              cases h5 : decide (-1 ≤ hi) with
              | false => simp (maxDischargeDepth := 9) only [bnd_some, cnd_true, cnd_false, gua_yes, gua_ft, gua_tup, oMove_v, oPick_t, oPick_f, oFieldPtr_ptr, oUn_not, oLenSl_vs, oBin_add, oBin_eql, oBin_neq, oBin_lss, oBin_leq, oBin_gtr, oBin_geq, oBin_sneq, htrunc_self, loadB_var, takeCells_1, rt_bool, htrunc_c, hget_at, decide_true, decide_false, Bool.not_true, Bool.not_false, List.drop_zero, List.drop_succ_cons, Nat.add_zero, Nat.zero_add, Bool.and_true, Bool.false_and, Bool.and_false, oLoad_ptr, Nat.le_refl, lenI, encEs_map, List.length_map, hx, hT, hN, h1, h2, h3, h4, h5, Int.reduceEq, Int.reduceLT, Int.reduceLE]
              | true =>
                cases h6 : decide (hi < 0) with
                | true => simp (maxDischargeDepth := 9) only [bnd_some, cnd_true, cnd_false, gua_yes, gua_tf, gua_ft, gua_tup, oMove_v, oPick_t, oPick_f, oFieldPtr_ptr, oUn_not, oLenSl_vs, oBin_add, oBin_eql, oBin_neq, oBin_lss, oBin_leq, oBin_gtr, oBin_geq, oBin_sneq, htrunc_self, loadB_var, takeCells_1, rt_bool, htrunc_c, hget_at, decide_true, decide_false, Bool.not_true, Bool.not_false, List.drop_zero, List.drop_succ_cons, Nat.add_zero, Nat.zero_add, Bool.and_true, Bool.true_or, oLoad_ptr, Nat.le_refl, lenI, encEs_map, List.length_map, hx, hT, hN, h1, h2, h3, h4, h5, h6, Int.reduceEq, Int.reduceLT, Int.reduceLE]
                | false =>
                  cases h7 : decide (lo ≤ hi) with
                  | false => simp (maxDischargeDepth := 9) only [bnd_some, cnd_true, cnd_false, gua_yes, gua_ft, gua_tup, oMove_v, oPick_t, oPick_f, oFieldPtr_ptr, oUn_not, oLenSl_vs, oBin_add, oBin_eql, oBin_neq, oBin_lss, oBin_leq, oBin_gtr, oBin_geq, oBin_sneq, htrunc_self, loadB_var, takeCells_1, rt_bool, htrunc_c, hget_at, decide_true, decide_false, Bool.not_true, Bool.not_false, List.drop_zero, List.drop_succ_cons, Nat.add_zero, Nat.zero_add, Bool.and_true, Bool.and_false, Bool.or_false, oLoad_ptr, Nat.le_refl, lenI, encEs_map, List.length_map, hx, hT, hN, h1, h2, h3, h4, h5, h6, h7, Int.reduceEq, Int.reduceLT, Int.reduceLE]
                  | true =>
                    simp (maxDischargeDepth := 9) only [bnd_some, cnd_true, cnd_false, gua_yes, gua_ft, gua_tup, oMove_v, oPick_t, oPick_f, oFieldPtr_ptr, oUn_not, oLenSl_vs, oBin_add, oBin_eql, oBin_neq, oBin_lss, oBin_leq, oBin_gtr, oBin_geq, oBin_sneq, htrunc_self, loadB_var, takeCells_1, rt_bool, htrunc_c, hget_at, decide_true, decide_false, Bool.not_true, Bool.not_false, List.drop_zero, List.drop_succ_cons, Nat.add_zero, Nat.zero_add, Bool.and_true, Bool.or_true, oLoad_ptr, Nat.le_refl, lenI, encEs_map, List.length_map, hx, hT, hN, h1, h2, h3, h4, h5, h6, h7, Int.reduceEq, Int.reduceLT, Int.reduceLE]
theorem r4_Right_t4 {lo hi : Int} {t : List UInt8} {n : List Int} {ks : List Rd.Expr} {d : V} {H : Heap} (ht : t.length ≤ 9223372036854775807) (hn : n.length ≤ 9223372036854775807) :
    ref04_Right_l1 H.length d (.ptr H.length 0 0) (.int .i64 ks.length) (.var [.int .i64 4, .str t, encI n, .int .i64 lo, .int .i64 hi, .vs (encEs ks)] :: H) = some (.ret (.bool (Te.own 4 t n lo hi ks.length)), H) := by
  have hx : ¬ (ks.length : Int) < (ks.length : Int) := by omega
  have hc : decide (ks.length = 0) = decide ((ks.length : Int) = 0) := by rw [Bool.eq_iff_iff]; simp only [decide_eq_true_eq]; omega
  rw [ref04_Right_l1_eq]
  unfold Te.own
  rw [if_neg (by omega), if_neg (by omega), if_pos rfl, nilI, hc]
  cases hN : decide ((0 : Int) < (n.length : Int)) with
  | true => simp (maxDischargeDepth := 9) only [bnd_some, cnd_true, cnd_false, gua_yes, gua_tf, gua_ft, gua_tup, oMove_v, oPick_t, oPick_f, oFieldPtr_ptr, oUn_not, oLenSl_vs, oBin_add, oBin_eql, oBin_lss, oBin_gtr, htrunc_self, loadB_var, takeCells_1, rt_bool, htrunc_c, hget_at, decide_true, decide_false, Bool.not_true, Bool.not_false, List.drop_zero, List.drop_succ_cons, Nat.add_zero, Nat.zero_add, Bool.false_and, oLoad_ptr, Nat.le_refl, lenI, encEs_map, List.length_map, hx, r4_Name ht, hN, Int.reduceEq, Int.reduceLT, Int.reduceLE]
  | false =>
    cases h1 : decide (lo = 0) with
    | false => simp (maxDischargeDepth := 9) only [bnd_some, cnd_true, cnd_false, gua_yes, gua_tf, gua_ft, oMove_v, oPick_t, oPick_f, oFieldPtr_ptr, oUn_not, oLenSl_vs, oBin_add, oBin_eql, oBin_neq, oBin_lss, oBin_gtr, htrunc_self, loadB_var, takeCells_1, rt_bool, htrunc_c, hget_at, decide_true, decide_false, Bool.not_true, Bool.not_false, List.drop_zero, List.drop_succ_cons, Nat.add_zero, Nat.zero_add, Bool.false_and, Bool.and_false, oLoad_ptr, Nat.le_refl, lenI, encEs_map, List.length_map, hx, r4_Name ht, hN, h1, Int.reduceEq, Int.reduceLT, Int.reduceLE]
    | true =>
      cases h2 : decide (hi = 0) with
      | false => simp (maxDischargeDepth := 9) only [bnd_some, cnd_true, cnd_false, gua_yes, gua_tf, gua_ft, oMove_v, oPick_t, oPick_f, oFieldPtr_ptr, oUn_not, oLenSl_vs, oBin_add, oBin_eql, oBin_neq, oBin_lss, oBin_gtr, htrunc_self, loadB_var, takeCells_1, rt_bool, htrunc_c, hget_at, decide_true, decide_false, Bool.not_true, Bool.not_false, List.drop_zero, List.drop_succ_cons, Nat.add_zero, Nat.zero_add, Bool.and_true, Bool.false_and, Bool.and_false, oLoad_ptr, Nat.le_refl, lenI, encEs_map, List.length_map, hx, r4_Name ht, hN, h1, h2, Int.reduceEq, Int.reduceLT, Int.reduceLE]
      | true =>
        cases h3 : decide ((ks.length : Int) = 0) with
        | false => simp (maxDischargeDepth := 9) only [bnd_some, bcall_ret, cnd_true, cnd_false, gua_yes, gua_tf, gua_ft, oMove_v, oPick_t, oPick_f, oFieldPtr_ptr, oUn_not, oLenSl_vs, oBin_add, oBin_eql, oBin_neq, oBin_lss, oBin_gtr, htrunc_self, loadB_var, takeCells_1, rt_bool, htrunc_c, hget_at, decide_true, decide_false, Bool.not_true, Bool.not_false, List.drop_zero, List.drop_succ_cons, Nat.add_zero, Nat.zero_add, Bool.and_true, Bool.false_and, Bool.and_false, oLoad_ptr, Nat.le_refl, lenI, encEs_map, List.length_map, hx, r4_Name ht, hN, h1, h2, h3, Int.reduceEq, Int.reduceLT, Int.reduceLE]
        | true =>
          simp (maxDischargeDepth := 9) only [bnd_some, bcall_ret, cnd_true, cnd_false, gua_yes, gua_tf, gua_ft, oMove_v, oPick_t, oPick_f, oFieldPtr_ptr, oUn_not, oLenSl_vs, oBin_add, oBin_eql, oBin_neq, oBin_lss, oBin_gtr, htrunc_self, loadB_var, takeCells_1, rt_bool, htrunc_c, hget_at, decide_true, decide_false, Bool.not_true, Bool.not_false, List.drop_zero, List.drop_succ_cons, Nat.add_zero, Nat.zero_add, Bool.and_true, Bool.true_and, oLoad_ptr, Nat.le_refl, lenI, encEs_map, List.length_map, hx, r4_Name ht, hN, h1, h2, h3, Int.reduceEq, Int.reduceLT, Int.reduceLE]
theorem r4_Right_t5 {lo hi : Int} {t : List UInt8} {n : List Int} {ks : List Rd.Expr} {d : V} {H : Heap} (ht : t.length ≤ 9223372036854775807) (hn : n.length ≤ 9223372036854775807) :
    ref04_Right_l1 H.length d (.ptr H.length 0 0) (.int .i64 ks.length) (.var [.int .i64 5, .str t, encI n, .int .i64 lo, .int .i64 hi, .vs (encEs ks)] :: H) = some (.ret (.bool (Te.own 5 t n lo hi ks.length)), H) := by
  have hx : ¬ (ks.length : Int) < (ks.length : Int) := by omega
  have hc : decide (ks.length = 0) = decide ((ks.length : Int) = 0) := by rw [Bool.eq_iff_iff]; simp only [decide_eq_true_eq]; omega
  rw [ref04_Right_l1_eq]
  unfold Te.own
  rw [if_neg (by omega), if_neg (by omega), if_neg (by omega), if_pos rfl, nilI, hc]
  cases hN : decide ((0 : Int) < (n.length : Int)) with
  | true => simp (maxDischargeDepth := 9) only [bnd_some, cnd_true, cnd_false, gua_yes, gua_tf, gua_ft, gua_tup, oMove_v, oPick_t, oPick_f, oFieldPtr_ptr, oUn_not, oLenSl_vs, oBin_add, oBin_eql, oBin_lss, oBin_gtr, htrunc_self, loadB_var, takeCells_1, rt_bool, htrunc_c, hget_at, decide_true, decide_false, Bool.not_true, Bool.not_false, List.drop_zero, List.drop_succ_cons, Nat.add_zero, Nat.zero_add, Bool.false_and, oLoad_ptr, Nat.le_refl, lenI, encEs_map, List.length_map, hx, r4_fold ht, hN, Int.reduceEq, Int.reduceLT, Int.reduceLE]
  | false =>
    cases h1 : decide (lo = 0) with
    | false => simp (maxDischargeDepth := 9) only [bnd_some, cnd_true, cnd_false, gua_yes, gua_tf, gua_ft, oMove_v, oPick_t, oPick_f, oFieldPtr_ptr, oUn_not, oLenSl_vs, oBin_add, oBin_eql, oBin_neq, oBin_lss, oBin_gtr, htrunc_self, loadB_var, takeCells_1, rt_bool, htrunc_c, hget_at, decide_true, decide_false, Bool.not_true, Bool.not_false, List.drop_zero, List.drop_succ_cons, Nat.add_zero, Nat.zero_add, Bool.false_and, Bool.and_false, oLoad_ptr, Nat.le_refl, lenI, encEs_map, List.length_map, hx, r4_fold ht, hN, h1, Int.reduceEq, Int.reduceLT, Int.reduceLE]
    | true =>
      cases h2 : decide (hi = 0) with
      | false => simp (maxDischargeDepth := 9) only [bnd_some, cnd_true, cnd_false, gua_yes, gua_ft, oMove_v, oPick_t, oPick_f, oFieldPtr_ptr, oUn_not, oLenSl_vs, oBin_add, oBin_eql, oBin_neq, oBin_lss, oBin_gtr, htrunc_self, loadB_var, takeCells_1, rt_bool, htrunc_c, hget_at, decide_true, decide_false, Bool.not_true, Bool.not_false, List.drop_zero, List.drop_succ_cons, Nat.add_zero, Nat.zero_add, Bool.and_true, Bool.false_and, Bool.and_false, oLoad_ptr, Nat.le_refl, lenI, encEs_map, List.length_map, hx, r4_fold ht, hN, h1, h2, Int.reduceEq, Int.reduceLT, Int.reduceLE]
      | true =>
        cases h3 : decide ((ks.length : Int) = 0) with
        | false => simp (maxDischargeDepth := 9) only [bnd_some, bcall_ret, cnd_true, cnd_false, gua_yes, gua_ft, oMove_v, oPick_t, oPick_f, oFieldPtr_ptr, oUn_not, oLenSl_vs, oBin_add, oBin_eql, oBin_neq, oBin_lss, oBin_gtr, htrunc_self, loadB_var, takeCells_1, rt_bool, htrunc_c, hget_at, decide_true, decide_false, Bool.not_true, Bool.not_false, List.drop_zero, List.drop_succ_cons, Nat.add_zero, Nat.zero_add, Bool.and_true, Bool.false_and, Bool.and_false, oLoad_ptr, Nat.le_refl, lenI, encEs_map, List.length_map, hx, r4_fold ht, hN, h1, h2, h3, Int.reduceEq, Int.reduceLT, Int.reduceLE]
        | true =>
          simp (maxDischargeDepth := 9) only [bnd_some, bcall_ret, cnd_true, cnd_false, gua_yes, gua_ft, oMove_v, oPick_t, oPick_f, oFieldPtr_ptr, oUn_not, oLenSl_vs, oBin_add, oBin_eql, oBin_neq, oBin_lss, oBin_gtr, htrunc_self, loadB_var, takeCells_1, rt_bool, htrunc_c, hget_at, decide_true, decide_false, Bool.not_true, Bool.not_false, List.drop_zero, List.drop_succ_cons, Nat.add_zero, Nat.zero_add, Bool.and_true, Bool.true_and, oLoad_ptr, Nat.le_refl, lenI, encEs_map, List.length_map, hx, r4_fold ht, hN, h1, h2, h3, Int.reduceEq, Int.reduceLT, Int.reduceLE]
theorem r4_Right_t6 {lo hi : Int} {t : List UInt8} {n : List Int} {ks : List Rd.Expr} {d : V} {H : Heap} (ht : t.length ≤ 9223372036854775807) (hn : n.length ≤ 9223372036854775807) :
    ref04_Right_l1 H.length d (.ptr H.length 0 0) (.int .i64 ks.length) (.var [.int .i64 6, .str t, encI n, .int .i64 lo, .int .i64 hi, .vs (encEs ks)] :: H) = some (.ret (.bool (Te.own 6 t n lo hi ks.length)), H) := by
  have hx : ¬ (ks.length : Int) < (ks.length : Int) := by omega
  have hc : decide (ks.length = 0) = decide ((ks.length : Int) = 0) := by rw [Bool.eq_iff_iff]; simp only [decide_eq_true_eq]; omega
  have hm := fun H => r4_nums hn 1 10000 H
  simp only [cast_lit] at hm
  rw [ref04_Right_l1_eq]
  unfold Te.own
  rw [if_neg (by omega), if_neg (by omega), if_neg (by omega), if_neg (by omega), if_pos rfl, hc]
  cases hT : decide (t = []) with
  | false => simp (maxDischargeDepth := 9) only [bnd_some, cnd_true, cnd_false, gua_yes, gua_tf, gua_tup, oMove_v, oPick_t, oPick_f, oFieldPtr_ptr, oUn_not, oLenSl_vs, oBin_add, oBin_eql, oBin_lss, oBin_gtr, oBin_sneq, htrunc_self, loadB_var, takeCells_1, rt_bool, htrunc_c, hget_at, decide_true, decide_false, Bool.not_false, List.drop_zero, List.drop_succ_cons, Nat.add_zero, Nat.zero_add, Bool.false_and, oLoad_ptr, Nat.le_refl, lenI, encEs_map, List.length_map, hx, hm, hT, Int.reduceEq, Int.reduceLT, Int.reduceLE]
  | true =>
    cases h1 : decide (lo = 0) with
    | false => simp (maxDischargeDepth := 9) only [bnd_some, cnd_true, cnd_false, gua_yes, gua_tf, gua_ft, oMove_v, oPick_t, oPick_f, oFieldPtr_ptr, oUn_not, oLenSl_vs, oBin_add, oBin_eql, oBin_neq, oBin_lss, oBin_gtr, oBin_sneq, htrunc_self, loadB_var, takeCells_1, rt_bool, htrunc_c, hget_at, decide_true, decide_false, Bool.not_true, Bool.not_false, List.drop_zero, List.drop_succ_cons, Nat.add_zero, Nat.zero_add, Bool.false_and, Bool.and_false, oLoad_ptr, Nat.le_refl, lenI, encEs_map, List.length_map, hx, hm, hT, h1, Int.reduceEq, Int.reduceLT, Int.reduceLE]
    | true =>
      cases h2 : decide (hi = 0) with
      | false => simp (maxDischargeDepth := 9) only [bnd_some, cnd_true, cnd_false, gua_yes, gua_tf, gua_ft, oMove_v, oPick_t, oPick_f, oFieldPtr_ptr, oUn_not, oLenSl_vs, oBin_add, oBin_eql, oBin_neq, oBin_lss, oBin_gtr, oBin_sneq, htrunc_self, loadB_var, takeCells_1, rt_bool, htrunc_c, hget_at, decide_true, decide_false, Bool.not_true, Bool.not_false, List.drop_zero, List.drop_succ_cons, Nat.add_zero, Nat.zero_add, Bool.and_true, Bool.false_and, Bool.and_false, oLoad_ptr, Nat.le_refl, lenI, encEs_map, List.length_map, hx, hm, hT, h1, h2, Int.reduceEq, Int.reduceLT, Int.reduceLE]
      | true =>
        cases h3 : decide ((ks.length : Int) = 0) with
        | false => simp (maxDischargeDepth := 9) only [bnd_some, bcall_ret, cnd_true, cnd_false, gua_yes, gua_tf, gua_ft, oMove_v, oPick_t, oPick_f, oFieldPtr_ptr, oUn_not, oLenSl_vs, oBin_add, oBin_eql, oBin_neq, oBin_lss, oBin_gtr, oBin_sneq, htrunc_self, loadB_var, takeCells_1, rt_bool, htrunc_c, hget_at, decide_true, decide_false, Bool.not_true, Bool.not_false, List.drop_zero, List.drop_succ_cons, Nat.add_zero, Nat.zero_add, Bool.and_true, Bool.false_and, Bool.and_false, oLoad_ptr, Nat.le_refl, lenI, encEs_map, List.length_map, hx, hm, hT, h1, h2, h3, Int.reduceEq, Int.reduceLT, Int.reduceLE]
        | true =>
          simp (maxDischargeDepth := 9) only [bnd_some, bcall_ret, cnd_true, cnd_false, gua_yes, gua_tf, gua_ft, oMove_v, oPick_t, oPick_f, oFieldPtr_ptr, oUn_not, oLenSl_vs, oBin_add, oBin_eql, oBin_neq, oBin_lss, oBin_gtr, oBin_sneq, htrunc_self, loadB_var, takeCells_1, rt_bool, htrunc_c, hget_at, decide_true, decide_false, Bool.not_true, Bool.not_false, List.drop_zero, List.drop_succ_cons, Nat.add_zero, Nat.zero_add, Bool.and_true, Bool.true_and, oLoad_ptr, Nat.le_refl, lenI, encEs_map, List.length_map, hx, hm, hT, h1, h2, h3, Int.reduceEq, Int.reduceLT, Int.reduceLE]
end Go.Proofs.YthcjjicplodhjaaDoor
end

section
/- Expressions that are right, the last kinds: the document. -/
namespace Go.Proofs.YthcjjicplodhjaaDoor
open Go Go.Ev
set_option linter.unusedVariables false
set_option linter.unusedSimpArgs false

theorem r4_Right_t7 {lo hi : Int} {t : List UInt8} {n : List Int} {ks : List Rd.Expr} {d : V} {H : Heap} (ht : t.length ≤ 9223372036854775807) (hn : n.length ≤ 9223372036854775807) :
    ref04_Right_l1 H.length d (.ptr H.length 0 0) (.int .i64 ks.length) (.var [.int .i64 7, .str t, encI n, .int .i64 lo, .int .i64 hi, .vs (encEs ks)] :: H) = some (.ret (.bool (Te.own 7 t n lo hi ks.length)), H) := by
  have hx : ¬ (ks.length : Int) < (ks.length : Int) := by omega
  have hc : decide (ks.length = 0) = decide ((ks.length : Int) = 0) := by rw [Bool.eq_iff_iff]; simp only [decide_eq_true_eq]; omega
  have hm := fun H => r4_nums hn 2 2 H
  simp only [cast_lit] at hm
  rw [ref04_Right_l1_eq]
  unfold Te.own
  rw [if_neg (by omega), if_neg (by omega), if_neg (by omega), if_neg (by omega), if_neg (by omega), if_pos rfl, hc]
  cases hT : decide (t = []) with
  | false => simp (maxDischargeDepth := 9) only [bnd_some, cnd_true, cnd_false, gua_yes, gua_tf, gua_tup, oMove_v, oPick_t, oPick_f, oFieldPtr_ptr, oUn_not, oLenSl_vs, oBin_add, oBin_eql, oBin_lss, oBin_gtr, oBin_sneq, htrunc_self, loadB_var, takeCells_1, rt_bool, htrunc_c, hget_at, decide_true, decide_false, Bool.not_false, List.drop_zero, List.drop_succ_cons, Nat.add_zero, Nat.zero_add, Bool.false_and, oLoad_ptr, Nat.le_refl, lenI, encEs_map, List.length_map, hx, hm, hT, Int.reduceEq, Int.reduceLT, Int.reduceLE]
  | true =>
    cases h1 : decide (lo = 0) with
    | false => simp (maxDischargeDepth := 9) only [bnd_some, cnd_true, cnd_false, gua_yes, gua_tf, gua_ft, oMove_v, oPick_t, oPick_f, oFieldPtr_ptr, oUn_not, oLenSl_vs, oBin_add, oBin_eql, oBin_neq, oBin_lss, oBin_gtr, oBin_sneq, htrunc_self, loadB_var, takeCells_1, rt_bool, htrunc_c, hget_at, decide_true, decide_false, Bool.not_true, Bool.not_false, List.drop_zero, List.drop_succ_cons, Nat.add_zero, Nat.zero_add, Bool.false_and, Bool.and_false, oLoad_ptr, Nat.le_refl, lenI, encEs_map, List.length_map, hx, hm, hT, h1, Int.reduceEq, Int.reduceLT, Int.reduceLE]
    | true =>
      cases h2 : decide (hi = 0) with
      | false => simp (maxDischargeDepth := 9) only [bnd_some, cnd_true, cnd_false, gua_yes, gua_ft, oMove_v, oPick_t, oPick_f, oFieldPtr_ptr, oUn_not, oLenSl_vs, oBin_add, oBin_eql, oBin_neq, oBin_lss, oBin_gtr, oBin_sneq, htrunc_self, loadB_var, takeCells_1, rt_bool, htrunc_c, hget_at, decide_true, decide_false, Bool.not_true, Bool.not_false, List.drop_zero, List.drop_succ_cons, Nat.add_zero, Nat.zero_add, Bool.and_true, Bool.false_and, Bool.and_false, oLoad_ptr, Nat.le_refl, lenI, encEs_map, List.length_map, hx, hm, hT, h1, h2, Int.reduceEq, Int.reduceLT, Int.reduceLE]
      | true =>
        cases h3 : decide ((ks.length : Int) = 0) with
        | false => simp (maxDischargeDepth := 9) only [bnd_some, bcall_ret, cnd_true, cnd_false, gua_yes, gua_ft, oMove_v, oPick_t, oPick_f, oFieldPtr_ptr, oUn_not, oLenSl_vs, oBin_add, oBin_eql, oBin_neq, oBin_lss, oBin_gtr, oBin_sneq, htrunc_self, loadB_var, takeCells_1, rt_bool, htrunc_c, hget_at, decide_true, decide_false, Bool.not_true, Bool.not_false, List.drop_zero, List.drop_succ_cons, Nat.add_zero, Nat.zero_add, Bool.and_true, Bool.false_and, Bool.and_false, oLoad_ptr, Nat.le_refl, lenI, encEs_map, List.length_map, hx, hm, hT, h1, h2, h3, Int.reduceEq, Int.reduceLT, Int.reduceLE]
        | true =>
          by_cases h2n : n.length = 2
          · obtain ⟨a, b, rfl⟩ : ∃ a b, n = [a, b] := by
              match n, h2n with
              | [a, b], _ => exact ⟨a, b, rfl⟩
            have i0 : ∀ k, oIndexPtr 1 (encI [a, b]) (.int k 0) = some (.fptr [.int .i64 a]) := fun k => oIndexPtr_vs (j := 0) (y := .int .i64 a) rfl rfl
            have i1 : ∀ k, oIndexPtr 1 (encI [a, b]) (.int k 1) = some (.fptr [.int .i64 b]) := fun k => oIndexPtr_vs (j := 1) (y := .int .i64 b) rfl rfl
            cases hq : Te.nums [a, b] 2 2 <;> simp (maxDischargeDepth := 9) only [bnd_some, bcall_ret, cnd_true, cnd_false, gua_yes, gua_ft, oMove_v, oPick_t, oPick_f, oFieldPtr_ptr, oUn_not, oLenSl_vs, oBin_add, oBin_eql, oBin_neq, oBin_lss, oBin_leq, oBin_gtr, oBin_sneq, htrunc_self, loadB_var, oLoad_fptr, takeCells_1, rt_bool, htrunc_c, hget_at, decide_true, decide_false, Bool.not_true, Bool.not_false, List.drop_zero, List.drop_succ_cons, Nat.add_zero, Nat.zero_add, Bool.and_true, Bool.true_and, Bool.false_and, Bool.and_false, oLoad_ptr, Nat.le_refl, lenI, encEs_map, List.length_map, hx, hm, hT, h1, h2, h3, hq, i0, i1, Int.reduceEq, Int.reduceLT, Int.reduceLE]
          · have hq : Te.nums n 2 2 = false := by
              have e : (decide (2 ≤ n.length) && decide (n.length ≤ 2)) = false := by rw [Bool.and_eq_false_iff, decide_eq_false_iff_not, decide_eq_false_iff_not]; omega
              unfold Te.nums; rw [e, Bool.and_false]
            simp (maxDischargeDepth := 9) only [bnd_some, bcall_ret, cnd_true, cnd_false, gua_yes, gua_ft, oMove_v, oPick_t, oPick_f, oFieldPtr_ptr, oUn_not, oLenSl_vs, oBin_add, oBin_eql, oBin_neq, oBin_lss, oBin_gtr, oBin_sneq, htrunc_self, loadB_var, takeCells_1, rt_bool, htrunc_c, hget_at, decide_true, decide_false, Bool.not_true, Bool.not_false, List.drop_zero, List.drop_succ_cons, Nat.add_zero, Nat.zero_add, Bool.and_true, Bool.false_and, Bool.and_false, oLoad_ptr, Nat.le_refl, lenI, encEs_map, List.length_map, hx, hm, hT, h1, h2, h3, hq, Int.reduceEq, Int.reduceLT, Int.reduceLE]
theorem r4_Right_t0 {k lo hi : Int} {t : List UInt8} {n : List Int} {ks : List Rd.Expr} {d : V} {H : Heap} (ht : t.length ≤ 9223372036854775807) (hn : n.length ≤ 9223372036854775807) (k1 : ¬ k = 1) (k2 : ¬ k = 2) (k3 : ¬ k = 3) (k4 : ¬ k = 4) (k5 : ¬ k = 5) (k6 : ¬ k = 6) (k7 : ¬ k = 7) :
    ref04_Right_l1 H.length d (.ptr H.length 0 0) (.int .i64 ks.length) (.var [.int .i64 k, .str t, encI n, .int .i64 lo, .int .i64 hi, .vs (encEs ks)] :: H) = some (.ret (.bool (Te.own k t n lo hi ks.length)), H) := by
  have hx : ¬ (ks.length : Int) < (ks.length : Int) := by omega
  rw [ref04_Right_l1_eq]
  unfold Te.own
  rw [if_neg (by omega), if_neg k3, if_neg k4, if_neg k5, if_neg k6, if_neg k7]
  cases hT : decide (t = []) with
  | false => simp (maxDischargeDepth := 9) only [bnd_some, cnd_true, cnd_false, gua_yes, gua_tf, gua_tup, oMove_v, oPick_t, oPick_f, oFieldPtr_ptr, oUn_not, oLenSl_vs, oBin_add, oBin_eql, oBin_lss, oBin_gtr, oBin_sneq, htrunc_self, loadB_var, takeCells_1, rt_bool, htrunc_c, hget_at, decide_false, Bool.not_false, List.drop_zero, List.drop_succ_cons, Nat.add_zero, Nat.zero_add, oLoad_ptr, Nat.le_refl, lenI, encEs_map, List.length_map, hx, k1, k2, k3, k4, k5, k6, k7, r4_Right_j, hT, Int.reduceEq, Int.reduceLT, Int.reduceLE]
  | true =>
    cases hN : decide ((0 : Int) < (n.length : Int)) with
    | true => simp (maxDischargeDepth := 9) only [bnd_some, cnd_true, cnd_false, gua_yes, gua_tf, gua_tup, oMove_v, oPick_t, oPick_f, oFieldPtr_ptr, oUn_not, oLenSl_vs, oBin_add, oBin_eql, oBin_lss, oBin_gtr, oBin_sneq, htrunc_self, loadB_var, takeCells_1, rt_bool, htrunc_c, hget_at, decide_false, Bool.not_true, Bool.not_false, List.drop_zero, List.drop_succ_cons, Nat.add_zero, Nat.zero_add, oLoad_ptr, Nat.le_refl, lenI, encEs_map, List.length_map, hx, k1, k2, k3, k4, k5, k6, k7, r4_Right_j, hT, hN, Int.reduceEq, Int.reduceLT, Int.reduceLE]
    | false =>
      cases h1 : decide (lo = 0) with
      | false => simp (maxDischargeDepth := 9) only [bnd_some, cnd_true, cnd_false, gua_yes, gua_tf, oMove_v, oPick_t, oPick_f, oFieldPtr_ptr, oUn_not, oLenSl_vs, oBin_add, oBin_eql, oBin_neq, oBin_lss, oBin_gtr, oBin_sneq, htrunc_self, loadB_var, takeCells_1, rt_bool, htrunc_c, hget_at, decide_false, Bool.not_true, Bool.not_false, List.drop_zero, List.drop_succ_cons, Nat.add_zero, Nat.zero_add, oLoad_ptr, Nat.le_refl, lenI, encEs_map, List.length_map, hx, k1, k2, k3, k4, k5, k6, k7, r4_Right_j, hT, hN, h1, Int.reduceEq, Int.reduceLT, Int.reduceLE]
      | true =>
        cases h2 : decide (hi = 0) with
        | false => simp (maxDischargeDepth := 9) only [bnd_some, cnd_true, cnd_false, gua_yes, oMove_v, oPick_t, oPick_f, oFieldPtr_ptr, oUn_not, oLenSl_vs, oBin_add, oBin_eql, oBin_neq, oBin_lss, oBin_gtr, oBin_sneq, htrunc_self, loadB_var, takeCells_1, rt_bool, htrunc_c, hget_at, decide_false, Bool.not_true, Bool.not_false, List.drop_zero, List.drop_succ_cons, Nat.add_zero, Nat.zero_add, oLoad_ptr, Nat.le_refl, lenI, encEs_map, List.length_map, hx, k1, k2, k3, k4, k5, k6, k7, r4_Right_j, hT, hN, h1, h2, Int.reduceEq, Int.reduceLT, Int.reduceLE]
        | true =>
          simp (maxDischargeDepth := 9) only [bnd_some, cnd_false, gua_yes, oMove_v, oPick_t, oPick_f, oFieldPtr_ptr, oUn_not, oLenSl_vs, oBin_add, oBin_eql, oBin_neq, oBin_lss, oBin_gtr, oBin_sneq, htrunc_self, loadB_var, takeCells_1, rt_bool, htrunc_c, hget_at, decide_false, Bool.not_true, Bool.not_false, List.drop_zero, List.drop_succ_cons, Nat.add_zero, Nat.zero_add, oLoad_ptr, Nat.le_refl, lenI, encEs_map, List.length_map, hx, k1, k2, k3, k4, k5, k6, k7, r4_Right_j, hT, hN, h1, h2, Int.reduceEq, Int.reduceLT, Int.reduceLE]
end Go.Proofs.YthcjjicplodhjaaDoor
end

section
/- Whether an expression is right: the document, whole. -/
namespace Go.Proofs.YthcjjicplodhjaaDoor
open Go Go.Ev
set_option linter.unusedVariables false
set_option linter.unusedSimpArgs false

theorem r4_Right_own {k lo hi : Int} {t : List UInt8} {n : List Int} {ks : List Rd.Expr} {d : V} {H : Heap} (ht : t.length ≤ 9223372036854775807) (hn : n.length ≤ 9223372036854775807) :
    ref04_Right_l1 H.length d (.ptr H.length 0 0) (.int .i64 ks.length) (.var [.int .i64 k, .str t, encI n, .int .i64 lo, .int .i64 hi, .vs (encEs ks)] :: H) = some (.ret (.bool (Te.own k t n lo hi ks.length)), H) := by
  by_cases h12 : k = 1 ∨ k = 2
  · exact r4_Right_t ht hn h12
  by_cases h3 : k = 3
  · subst h3; exact r4_Right_t3 ht hn
  by_cases h4 : k = 4
  · subst h4; exact r4_Right_t4 ht hn
  by_cases h5 : k = 5
  · subst h5; exact r4_Right_t5 ht hn
  by_cases h6 : k = 6
  · subst h6; exact r4_Right_t6 ht hn
  by_cases h7 : k = 7
  · subst h7; exact r4_Right_t7 ht hn
  exact r4_Right_t0 ht hn (fun h => h12 (.inl h)) (fun h => h12 (.inr h)) h3 h4 h5 h6 h7

theorem idxK {l : List Rd.Expr} {i : Nat} (h : i < l.length) (k : IntKind) : oIndexPtr 6 (.vs (encEs l)) (.int k (i : Int)) = some (.fptr (encE l[i]).cells) :=
  oIndexPtr_vs (y := encE l[i]) (by rw [encEs_map]; simp [h]) (by simp)
theorem takeE (x : Rd.Expr) : takeCells true 6 (encE x).cells = some (encE x) := by cases x; rfl
theorem r4_Right_l {d : Nat} (hd : d ≤ 1000000) {k lo hi : Int} {t : List UInt8} {n : List Int} {ks : List Rd.Expr} {H : Heap} (ht : t.length ≤ 9223372036854775807) (hn : n.length ≤ 9223372036854775807) (hks : ks.length ≤ 9223372036854775807)
    (hk : 1 ≤ d → ∀ x ∈ ks, ∀ H : Heap, E n_ref04_Right [encE x, .int .i64 ((d - 1 : Nat) : Int)] H = some (.ret (.bool (Te.right (d - 1) x)), H)) : ∀ (m i : Nat), ks.length - i = m → i ≤ ks.length →
    ref04_Right_l1 H.length (.int .i64 d) (.ptr H.length 0 0) (.int .i64 i) (.var [.int .i64 k, .str t, encI n, .int .i64 lo, .int .i64 hi, .vs (encEs ks)] :: H) = some (.ret (.bool ((if d = 0 then (ks.drop i).isEmpty else (ks.drop i).all (Te.right (d - 1))) && Te.own k t n lo hi ks.length)), H)
  | m, i, hm, hile => by
    by_cases h : i < ks.length
    · have h' : (i : Int) < (ks.length : Int) := by omega
      obtain ⟨m, rfl⟩ : ∃ q, m = q + 1 := ⟨m - 1, by omega⟩
      have ih := r4_Right_l hd (k := k) (lo := lo) (hi := hi) (H := H) ht hn hks hk m (i + 1) (by omega) (by omega)
      rw [List.drop_eq_getElem_cons h]
      rw [ref04_Right_l1_eq]
      by_cases h0 : d = 0
      · subst h0
        have hz : (0 : Int) < 1 := by omega
        simp (maxDischargeDepth := 9) only [bnd_some, bcall_ret, cnd_true, gua_tf, oMove_v, oPick_t, oFieldPtr_ptr, oLenSl_vs, oBin_add, oBin_eql, oBin_lss, oBin_gtr, htrunc_self, loadB_var, takeCells_1, rt_bool, cast_lit, htrunc_c, hget_at, decide_true, if_true, List.drop_zero, List.drop_succ_cons, Nat.add_zero, Nat.zero_add, oLoad_ptr, Nat.le_refl, encEs_map, List.length_map, h', hz]
        rfl
      · rw [if_neg h0] at ih ⊢
        have hz : ¬ (d : Int) < 1 := by omega
        have hw : IntKind.i64.wrap ((d : Int) - 1) = ((d - 1 : Nat) : Int) := by rw [wrap_i64 (by omega) (by omega)]; omega
        have hc := hk (by omega) ks[i] (List.getElem_mem h)
        rw [List.all_cons]
        cases hr : Te.right (d - 1) ks[i] with
        | true =>
          rw [hr] at hc
          simp only [Bool.true_and]
          have idx := fun k => idxK h k
          simp only [encEs_map] at idx ih
          simp (maxDischargeDepth := 9) only [bnd_some, bcall_ret, cnd_true, cnd_false, gua_yes, oMove_v, oPick_f, oFieldPtr_ptr, oUn_not, oLenSl_vs, oBin_add, oBin_sub, oBin_eql, oBin_lss, oBin_gtr, htrunc_self, loadB_var, oLoad_fptr, takeCells_1, rt_bool, htrunc_c, hget_at, takeC, encE_cells, encE_agg, encE_take6, decide_true, decide_false, Bool.not_true, List.drop_zero, List.drop_succ_cons, Nat.add_zero, Nat.zero_add, oLoad_ptr, Nat.le_refl, encEs_map, List.length_map, h', hz, idx, takeE, hw, hc, wrap_in h hks, ih]
        | false =>
          rw [hr] at hc
          have idx := fun k => idxK h k
          simp only [encEs_map] at idx
          simp (maxDischargeDepth := 9) only [bnd_some, bcall_ret, cnd_true, gua_yes, oMove_v, oPick_f, oFieldPtr_ptr, oUn_not, oLenSl_vs, oBin_add, oBin_sub, oBin_eql, oBin_lss, oBin_gtr, htrunc_self, loadB_var, oLoad_fptr, takeCells_1, rt_bool, htrunc_c, hget_at, takeC, encE_cells, encE_agg, encE_take6, decide_true, decide_false, Bool.not_false, List.drop_zero, List.drop_succ_cons, Nat.add_zero, Nat.zero_add, Bool.false_and, oLoad_ptr, Nat.le_refl, encEs_map, List.length_map, h', hz, idx, takeE, hw, hc]
    · have e : i = ks.length := by omega
      subst e
      rw [List.drop_of_length_le (Nat.le_refl _), r4_Right_own ht hn]
      simp
theorem r4_Right : ∀ (d : Nat), d ≤ 1000000 → ∀ {e : Rd.Expr}, e.Fit → ∀ H : Heap, E n_ref04_Right [encE e, .int .i64 d] H = some (.ret (.bool (Te.right d e)), H)
  | d, hd, e, he, H => by
    cases he with
    | @mk k t n lo hi ks ht hn hks hf =>
      have hk : 1 ≤ d → ∀ x ∈ ks, ∀ H : Heap, E n_ref04_Right [encE x, .int .i64 ((d - 1 : Nat) : Int)] H = some (.ret (.bool (Te.right (d - 1) x)), H) := fun h1 x hx H => r4_Right (d - 1) (by omega) (hf x hx) H
      have hl := r4_Right_l hd (k := k) (lo := lo) (hi := hi) (H := H) ht hn hks hk ks.length 0 rfl (Nat.zero_le _)
      simp only [cast_lit, List.drop_zero] at hl
      rw [ref04_Right_E, ref04_Right_eq]
      simp only [encE]
      simp (maxDischargeDepth := 9) only [beff_some, cells_agg, scalL_nil, scalL_cons, scal_int, scal_str, scal_vs, oVar_c, encI_scal, Bool.and_true, hl]
      cases d with
      | zero =>
        simp only [Te.right, if_true]
        cases ks with
        | nil => rfl
        | cons x ks => rfl
      | succ d => simp [Te.right]
  termination_by d => d
end Go.Proofs.YthcjjicplodhjaaDoor
end

section
/- Is there one of which a function says so: numbers, expressions. -/
namespace Go.Proofs.YthcjjicplodhjaaDoor
open Go Go.Ev
set_option linter.unusedVariables false
set_option linter.unusedSimpArgs false

theorem c_IndexI_l {l : List Int} (hl : l.length ≤ 9223372036854775807) {f : FuncId} {cap : List V} {q : Int → Bool} {H : Heap} (hf : ∀ x ∈ l, E f (.int .i64 x :: cap) H = some (.ret (.bool (q x)), H)) : ∀ (m i : Nat), l.length - i = m → i ≤ l.length →
    ∃ r : Int, slices_IndexFunc_int_int_l1 H.length (encI l) (.fn f cap) (.int .i64 l.length) (.int .i64 i) H = some (.ret (.int .i64 r), H) ∧ (0 ≤ r ↔ (l.drop i).any q = true)
  | m, i, hm, hi => by
    rw [slices_IndexFunc_int_int_l1_eq, encI]
    by_cases h : i < l.length
    · have h' : (i : Int) < (l.length : Int) := by omega
      obtain ⟨m, rfl⟩ : ∃ k, m = k + 1 := ⟨m - 1, by omega⟩
      have hx := hf l[i] (List.getElem_mem h)
      rw [List.drop_eq_getElem_cons h, List.any_cons]
      cases hq : q l[i] with
      | true =>
        rw [hq] at hx
        refine ⟨i, ?_, by simp⟩
        simp (maxDischargeDepth := 9) only [bnd_some, bcall_ret, cnd_true, oDyn_fn, oBin_add, oBin_lss, htrunc_self, oLoad_fptr, takeCells_1, rt_int, decide_true, List.nil_append, List.cons_append, h', idxE h, hx]
      | false =>
        rw [hq] at hx
        obtain ⟨r, i1, i2⟩ := c_IndexI_l hl hf m (i + 1) (by omega) (by omega)
        rw [encI] at i1
        refine ⟨r, ?_, by simpa using i2⟩
        simp (maxDischargeDepth := 9) only [bnd_some, bcall_ret, cnd_true, cnd_false, oDyn_fn, oBin_add, oBin_lss, htrunc_self, oLoad_fptr, takeCells_1, rt_int, decide_true, List.nil_append, List.cons_append, h', idxE h, hx, wrap_in h hl, i1]
    · have h' : ¬ (i : Int) < (l.length : Int) := by omega
      refine ⟨-1, ?_, ?_⟩
      · simp (maxDischargeDepth := 9) only [bnd_some, cnd_false, oDyn_fn, oBin_add, oBin_lss, htrunc_self, rt_int, decide_false, List.nil_append, List.cons_append, h']
      · rw [List.drop_of_length_le (by omega)]; simp
theorem c_ContainsI {l : List Int} (hl : l.length ≤ 9223372036854775807) {f : FuncId} {cap : List V} {q : Int → Bool} {H : Heap} (hf : ∀ x ∈ l, E f (.int .i64 x :: cap) H = some (.ret (.bool (q x)), H)) :
    E n_slices_ContainsFunc_int_int [encI l, .fn f cap] H = some (.ret (.bool (l.any q)), H) := by
  obtain ⟨r, h1, h2⟩ := c_IndexI_l hl hf l.length 0 rfl (Nat.zero_le _)
  rw [List.drop_zero] at h2
  simp only [cast_lit] at h1
  have h3 : E n_slices_IndexFunc_int_int [encI l, .fn f cap] H = some (.ret (.int .i64 r), H) := by
    rw [slices_IndexFunc_int_int_E, slices_IndexFunc_int_int_eq]
    simp only [lenI, bnd_some]
    exact h1
  rw [slices_ContainsFunc_int_int_E, slices_ContainsFunc_int_int_eq]
  have h4 : decide (0 ≤ r) = l.any q := by rw [Bool.eq_iff_iff, decide_eq_true_eq]; exact h2
  simp (maxDischargeDepth := 9) only [bnd_some, bcall_ret, oBin_geq, htrunc_self, rt_bool, h3, h4]

theorem c_IndexE_l {l : List Rd.Expr} (hl : l.length ≤ 9223372036854775807) {f : FuncId} {cap : List V} {q : Rd.Expr → Bool} {H : Heap} (hf : ∀ x ∈ l, E f (encE x :: cap) H = some (.ret (.bool (q x)), H)) : ∀ (m i : Nat), l.length - i = m → i ≤ l.length →
    ∃ r : Int, slices_IndexFunc_api_Expr_api_Expr_l1 H.length (.vs (encEs l)) (.fn f cap) (.int .i64 l.length) (.int .i64 i) H = some (.ret (.int .i64 r), H) ∧ (0 ≤ r ↔ (l.drop i).any q = true)
  | m, i, hm, hi => by
    rw [slices_IndexFunc_api_Expr_api_Expr_l1_eq]
    by_cases h : i < l.length
    · have h' : (i : Int) < (l.length : Int) := by omega
      obtain ⟨m, rfl⟩ : ∃ k, m = k + 1 := ⟨m - 1, by omega⟩
      have hx := hf l[i] (List.getElem_mem h)
      rw [List.drop_eq_getElem_cons h, List.any_cons]
      cases hq : q l[i] with
      | true =>
        rw [hq] at hx
        refine ⟨i, ?_, by simp⟩
        simp (maxDischargeDepth := 9) only [bnd_some, bcall_ret, cnd_true, oDyn_fn, oBin_add, oBin_lss, htrunc_self, oLoad_fptr, rt_int, takeC, encE_cells, encE_agg, encE_take6, decide_true, List.nil_append, List.cons_append, Nat.le_refl, h', idxK h, takeE, hx]
      | false =>
        rw [hq] at hx
        obtain ⟨r, i1, i2⟩ := c_IndexE_l hl hf m (i + 1) (by omega) (by omega)
        refine ⟨r, ?_, by simpa using i2⟩
        simp (maxDischargeDepth := 9) only [bnd_some, bcall_ret, cnd_true, cnd_false, oDyn_fn, oBin_add, oBin_lss, htrunc_self, oLoad_fptr, rt_int, takeC, encE_cells, encE_agg, encE_take6, decide_true, List.nil_append, List.cons_append, Nat.le_refl, h', idxK h, takeE, hx, wrap_in h hl, i1]
    · have h' : ¬ (i : Int) < (l.length : Int) := by omega
      refine ⟨-1, ?_, ?_⟩
      · simp (maxDischargeDepth := 9) only [bnd_some, cnd_false, oDyn_fn, oBin_add, oBin_lss, htrunc_self, rt_int, decide_false, List.nil_append, List.cons_append, h']
      · rw [List.drop_of_length_le (by omega)]; simp
theorem c_ContainsE {l : List Rd.Expr} (hl : l.length ≤ 9223372036854775807) {f : FuncId} {cap : List V} {q : Rd.Expr → Bool} {H : Heap} (hf : ∀ x ∈ l, E f (encE x :: cap) H = some (.ret (.bool (q x)), H)) :
    E n_slices_ContainsFunc_api_Expr_api_Expr [.vs (encEs l), .fn f cap] H = some (.ret (.bool (l.any q)), H) := by
  obtain ⟨r, h1, h2⟩ := c_IndexE_l hl hf l.length 0 rfl (Nat.zero_le _)
  rw [List.drop_zero] at h2
  simp only [cast_lit] at h1
  have h3 : E n_slices_IndexFunc_api_Expr_api_Expr [.vs (encEs l), .fn f cap] H = some (.ret (.int .i64 r), H) := by
    rw [slices_IndexFunc_api_Expr_api_Expr_E, slices_IndexFunc_api_Expr_api_Expr_eq]
    simp only [lenE, bnd_some]
    exact h1
  rw [slices_ContainsFunc_api_Expr_api_Expr_E, slices_ContainsFunc_api_Expr_api_Expr_eq]
  have h4 : decide (0 ≤ r) = l.any q := by rw [Bool.eq_iff_iff, decide_eq_true_eq]; exact h2
  simp (maxDischargeDepth := 9) only [bnd_some, bcall_ret, oBin_geq, htrunc_self, rt_bool, h3, h4]
end Go.Proofs.YthcjjicplodhjaaDoor
end

