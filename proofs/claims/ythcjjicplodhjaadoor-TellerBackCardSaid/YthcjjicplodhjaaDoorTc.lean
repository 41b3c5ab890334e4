/- Tc: a part of the proof that each law of this seat answers true at every input. No condition. -/
import Derived.Test.YthcjjicplodhjaaDoorTb
import Derived.Test.YthcjjicplodhjaaDoorEvH
import Derived.Test.YthcjjicplodhjaaDoorTe
set_option linter.unusedVariables false
set_option linter.unusedSimpArgs false
set_option maxRecDepth 20000
section
/- Numbers to the base 16: the library, the teller, the document. -/
namespace Go.Proofs.YthcjjicplodhjaaDoor
open Go Go.Ev
set_option linter.unusedVariables false
set_option linter.unusedSimpArgs false

theorem i4_TZ (H : Heap) : E n_math_bits_TrailingZeros64 [.int .u64 16] H = some (.ret (.int .i64 4), H) := by
  rw [show E = EV Tryd.prog hint D from rfl, EV_intr (g := iRd gTZ) rfl]
  have e : (if (16 : Int) = 0 then (64 : Int) else tzTab.getD (tzIdx 16).toNat 0) = 4 := by decide
  unfold iRd gTZ
  simp only [e]
  rfl
theorem s4_TZ (H : Heap) : E n_math_bits_TrailingZeros [.int .u64 16] H = some (.ret (.int .i64 4), H) := by
  rw [math_bits_TrailingZeros_E, math_bits_TrailingZeros_eq]
  simp (maxDischargeDepth := 9) only [Qah, Qab, Qbd, Qfb, Qda, Qgh, i4_TZ]
theorem dig_at : ∀ n : Nat, n < 16 → (([48, 49, 50, 51, 52, 53, 54, 55, 56, 57, 97, 98, 99, 100, 101, 102, 103, 104, 105, 106, 107, 108, 109, 110, 111, 112, 113, 114, 115, 116, 117, 118, 119, 120, 121, 122] : List UInt8)[n]?) = some (Te.lowC n) := by decide
theorem dig_str {n : Nat} (h : n < 16) (k : IntKind) : oIndexStr (.str [48, 49, 50, 51, 52, 53, 54, 55, 56, 57, 97, 98, 99, 100, 101, 102, 103, 104, 105, 106, 107, 108, 109, 110, 111, 112, 113, 114, 115, 116, 117, 118, 119, 120, 121, 122]) (.int k (n : Int)) = some (.int .u8 (Te.lowC n).toNat) := by
  have h1 := dig_at n h
  have h2 : n < ([48, 49, 50, 51, 52, 53, 54, 55, 56, 57, 97, 98, 99, 100, 101, 102, 103, 104, 105, 106, 107, 108, 109, 110, 111, 112, 113, 114, 115, 116, 117, 118, 119, 120, 121, 122] : List UInt8).length := by simp; omega
  refine oIndexStr_at (by omega) ?_
  rw [show ((n : Int)).toNat = n by omega]
  exact h1
theorem s4_bits_l : ∀ (m u i : Nat), u < 16 ^ (m + 1) → m + 1 ≤ i → i ≤ 65 → ∀ (pre : List V) (acc : List UInt8) (H : Heap), pre.length = i → (pre ++ bytesV acc).length = 65 → m ≤ 14 →
    internal_strconv_formatBits_l3 H.length .nils (.int .u64 u) (.bool false) (.bool false) .nils (.str []) (.ptr H.length 0 0) (.int .i64 i) (.int .u64 4) (.int .u64 16) (.int .u64 15) (.var (pre ++ bytesV acc) :: H) = some (.ret (.tup [.vs [], .str (Te.low u ++ acc)]), H)
  | m, u, i, hu, hmi, hi, pre, acc, H, hp, hl, hm => by
    have hsplit : ∃ p x, pre = p ++ [x] ∧ p.length = i - 1 := by
      refine ⟨pre.dropLast, pre.getLast (by rintro rfl; simp at hp; omega), (List.dropLast_concat_getLast _).symm, by simp [hp]⟩
    obtain ⟨p, x, rfl, hpl⟩ := hsplit
    have hw : IntKind.i64.wrap ((i : Int) - 1) = ((i - 1 : Nat) : Int) := by rw [wrap_i64 (by omega) (by omega)]; omega
    have hu2 : u < 18446744073709551616 := Nat.lt_of_lt_of_le hu (Nat.le_trans (Nat.pow_le_pow_right (by omega) (show m + 1 ≤ 15 by omega)) (by decide))
    have hix := fun (v o : Nat) (k : IntKind) => oIndexPtrA_at (len := 65) (n := 1) (i := H.length) (v := v) (o := o) (k := k) (j := i - 1) (by omega)
    rw [internal_strconv_formatBits_l3_eq, List.append_assoc, List.cons_append, List.nil_append]
    have hsp := fun v => splice_at (a := p) (b := bytesV acc) (x := x) (y := v) hpl
    have hlen : (p ++ x :: bytesV acc).length = 65 := by simpa [Nat.add_assoc] using hl
    have hlen2 : p.length + ((bytesV acc).length + 1) = 65 := by simpa using hlen
    have hst : i - 1 + 1 ≤ p.length + (acc.length + 1) := by rw [bytesV_length] at hlen2; omega
    by_cases h : u < 16
    · have hg : ¬ (16 : Int) ≤ (u : Int) := by omega
      have hs2 : ∀ v : V, (p ++ v :: bytesV acc).length = 65 * 1 := fun v => by simpa using hlen2
      have hslice := fun (v : V) => oSliceA_at (n := 1) (len := 65) (ag := false) (i := H.length) (cs := p ++ v :: bytesV acc) (H := .var (p ++ v :: bytesV acc) :: H) (k := .i64) (lo := i - 1) (by simp) (hs2 v) (by omega) (by omega)
      have htx := oText_at (H := .row 0 1 false (p ++ .int .u8 (Te.lowC u).toNat :: bytesV acc) :: H) (i := H.length) (ver := 0) (off := i - 1) (n := 65 - (i - 1)) (ag := false) (cs := p ++ .int .u8 (Te.lowC u).toNat :: bytesV acc) (s := Te.lowC u :: acc) (by simp) (by rw [hs2]; omega) (by
        rw [← hpl, List.drop_left]
        exact List.take_of_length_le (by rw [bytesV_length] at hlen2; simp; omega))
      rw [Te.low_small h]
      simp (maxDischargeDepth := 9) only [Qah, Qag, Qbd, Qeo, Qef, Qeb, Qda, Qas, Qgr, Qgq, Qgv, Qdl, Qdu, Qdw, Qdv, Qdg, Qdf, Qhk, Qcu, Qcm, Qcq, Qgm, Qgd, Qbf, Qcf, Qcd, Qcg, Qde, Qdd, Qak, decide_false, if_true, List.length_cons, List.length_nil, Nat.zero_add, Option.bind_some, Option.map_some, Bool.and_true, List.nil_append, List.cons_append, Nat.reduceAdd, oStore_ptr, le_s, Nat.le_refl, Nat.zero_le, or_true, true_or, and_true, and_self, Nat.max_self, hg, hw, dig_str h, hix, hlen2, hst, hsp, Nat.mul_one, List.length_append, internal_strconv_formatBits_j4_eq, internal_strconv_formatBits_j5_eq, hslice, htx, List.singleton_append]
    · have hg : (16 : Int) ≤ (u : Int) := by omega
      have hmask := and_mask (u := u) (k := 4) hu2 (by omega)
      have hmask' : IntKind.u64.wrap (((BitVec.ofInt IntKind.u64.bits (u : Int) &&& BitVec.ofInt IntKind.u64.bits 15).toNat : Nat) : Int) = ((u % 16 : Nat) : Int) := hmask
      have hand : oBin .and 6 (.int .u64 (u : Int)) (.int .u64 15) = some (.int .u64 ((u % 16 : Nat) : Int)) := by rw [Qeb, hmask']
      have hshr : oBin .shr 6 (.int .u64 (u : Int)) (.int .u64 4) = some (.int .u64 ((u / 16 : Nat) : Int)) := by
        rw [oBin_shr (by omega)]
        have : ((u : Int)).fdiv (2 ^ (min (4 : Int).toNat IntKind.u64.bits)) = ((u / 16 : Nat) : Int) := by
          show ((u : Int)).fdiv 16 = _
          rw [Int.fdiv_eq_ediv_of_nonneg _ (by omega)]; omega
        rw [this]
      obtain ⟨m, rfl⟩ : ∃ q, m = q + 1 := ⟨m - 1, by
        rcases Nat.eq_zero_or_pos m with h0 | h0
        · subst h0; simp at hu; omega
        · omega⟩
      have ih := s4_bits_l m (u / 16) (i - 1) (by rw [Nat.pow_succ] at hu; exact Nat.div_lt_of_lt_mul (by omega)) (by omega) (by omega) p (Te.lowC (u % 16) :: acc) H hpl (by simpa [bytesV] using hlen2) (by omega)
      rw [Te.low_big h, List.append_assoc, List.singleton_append, ← ih]
      have hbv : bytesV (Te.lowC (u % 16) :: acc) = .int .u8 (Te.lowC (u % 16)).toNat :: bytesV acc := rfl
      rw [hbv]
      simp (maxDischargeDepth := 9) only [Qah, Qag, Qbe, Qeo, Qef, Qas, Qgr, Qgq, Qgv, Qdl, Qhk, Qcm, Qcq, Qak, decide_true, if_true, List.length_cons, List.length_nil, Nat.zero_add, Bool.and_true, oStore_ptr, le_s, Nat.le_refl, Nat.zero_le, or_true, true_or, and_true, and_self, hg, hw, hand, hshr, dig_str (show u % 16 < 16 by omega), hix, hlen2, hst, hsp, Nat.mul_one, List.length_append]
theorem s4_bits {u : Nat} (hu : u < 16 ^ 15) (H : Heap) : E n_internal_strconv_formatBits [.nils, .int .u64 u, .int .i64 16, .bool false, .bool false] H = some (.ret (.tup [.vs [], .str (Te.low u)]), H) := by
  have hb : bytesV [] = [] := rfl
  have k := s4_bits_l 14 u 65 hu (by omega) (by omega) (List.replicate 65 (.int .u8 0)) [] H (by simp) (by simp [hb]) (by omega)
  rw [hb, List.append_nil, List.append_nil] at k
  simp only [Qam] at k
  have hp : ∀ H, E n_internal_strconv_isPowerOfTwo [.int .i64 16] H = some (.ret (.bool true), H) := fun H => by
    have e : decide (IntKind.i64.wrap (((BitVec.ofInt IntKind.i64.bits 16 &&& BitVec.ofInt IntKind.i64.bits (IntKind.i64.wrap (16 - 1))).toNat : Nat) : Int) = 0) = true := by decide
    rw [internal_strconv_isPowerOfTwo_E, internal_strconv_isPowerOfTwo_eq]
    simp (maxDischargeDepth := 9) only [Qah, Qeo, Qee, Qeb, Qda, Qgf, Qeb, e]
  have w1 : IntKind.u64.wrap 16 = 16 := by decide
  have w2 : IntKind.u64.wrap 4 = 4 := by decide
  have w3 : IntKind.u64.wrap (16 - 1) = 15 := by decide
  have l1 : ¬ (16 : Int) < 2 := by omega
  have l2 : ¬ (16 : Int) = 10 := by omega
  have l3 : ¬ (36 : Int) < 16 := by omega
  rw [internal_strconv_formatBits_E, internal_strconv_formatBits_eq]
  simp (maxDischargeDepth := 9) only [Qah, Qag, Qab, Qbe, Qbd, Qcl, Qfp, Qez, Qft, Qfs, Qfw, Qfb, Qeo, Qee, Qei, Qeg, Qao, Qgr, Qgq, Qgv, Qfy, decide_false, Bool.and_true, l1, l2, l3, internal_strconv_formatBits_j1_eq, internal_strconv_formatBits_j2_eq, hp, s4_TZ, w1, w2, w3]
  exact k
theorem s4_Format {u : Nat} (hu : u < 16 ^ 15) (H : Heap) : E n_strconv_FormatInt [.int .i64 u, .int .i64 16] H = some (.ret (.str (Te.low u)), H) := by
  have l1 : ¬ (16 : Int) = 10 := by omega
  have l2 : ¬ (u : Int) < 0 := by omega
  have w : IntKind.u64.wrap (u : Int) = (u : Int) := by
    have : u < 2 ^ 60 := Nat.lt_of_lt_of_le hu (by decide)
    simp only [IntKind.wrap, IntKind.bits, IntKind.signed, Bool.false_and, Bool.false_eq_true, if_false, Int.reducePow]
    omega
  have e : E n_internal_strconv_FormatInt [.int .i64 u, .int .i64 16] H = some (.ret (.str (Te.low u)), H) := by
    rw [internal_strconv_FormatInt_E, internal_strconv_FormatInt_eq]
    simp (maxDischargeDepth := 9) only [Qah, Qag, Qab, Qbd, Qfp, Qfw, Qfb, Qet, Qeu, Qee, Qei, Qeh, Qda, Qgl, Qao, Qgr, Qgq, Qgv, Qfy, decide_false, Bool.and_true, l1, l2, w, s4_bits hu]
  rw [strconv_FormatInt_E, strconv_FormatInt_eq]
  simp (maxDischargeDepth := 9) only [Qab, Qda, Qgl, e]
theorem i4_Upper {s : List UInt8} (h1 : s.length ≤ 140737488355328) (h2 : asciiB s = true) (H : Heap) : E n_strings_ToUpper [.str s] H = some (.ret (.str (Lib.toUpperA s)), H) := by
  rw [show E = EV Tryd.prog hint D from rfl, EV_intr (g := iRd gUpper) rfl]
  unfold iRd gUpper
  simp only [h1, h2, and_self, if_true, Option.map_some]
theorem c4_digits {n : Int} (h0 : 0 ≤ n) (h1 : n ≤ 1114111) (H : Heap) : E n_teller_digits [.int .i64 n] H = some (.ret (.str (Te.hex n.toNat)), H) := by
  obtain ⟨u, rfl⟩ : ∃ u : Nat, n = u := ⟨n.toNat, by omega⟩
  have hu : u < 16 ^ 15 := Nat.lt_of_le_of_lt (show u ≤ 1114111 by omega) (by decide)
  have hl : (Te.low u).length ≤ 6 := Te.low_len u 6 (Nat.lt_of_le_of_lt (show u ≤ 1114111 by omega) (by decide)) (by omega)
  have ha : asciiB (Te.low u) = true := List.all_eq_true.2 fun b hb => by simpa using Te.low_ascii u b hb
  rw [show ((u : Int)).toNat = u by omega, ← Te.pad_up, teller_digits_E, teller_digits_eq]
  have e : Lib.toUpperA (Te.low u) = Te.up u := rfl
  have hul : (Te.up u).length ≤ 6 := by unfold Te.up Lib.toUpperA; simpa using hl
  unfold Te.pad
  by_cases h2 : (Te.up u).length < 2
  · have h3 : ((Te.up u).length : Int) < 2 := by omega
    have hc : oBin .add 6 (.str [48]) (.str (Te.up u)) = some (.str (48 :: Te.up u)) := oBin_cat _ _ _ (by simp; omega)
    rw [if_pos h2]
    simp (maxDischargeDepth := 9) only [Qah, Qab, Qbe, Qfg, Qei, Qda, Qgl, decide_true, s4_Format hu, i4_Upper (show (Te.low u).length ≤ 140737488355328 by omega) ha, e, h3, hc]
  · have h3 : ¬ ((Te.up u).length : Int) < 2 := by omega
    rw [if_neg h2]
    simp (maxDischargeDepth := 9) only [Qah, Qab, Qbd, Qfg, Qei, Qda, Qgl, decide_false, s4_Format hu, i4_Upper (show (Te.low u).length ≤ 140737488355328 by omega) ha, e, h3]
end Go.Proofs.YthcjjicplodhjaaDoor
end

section
/- Numbers in texts; how often. -/
namespace Go.Proofs.YthcjjicplodhjaaDoor
open Go Go.Ev
set_option linter.unusedVariables false
set_option linter.unusedSimpArgs false

theorem c_IndexN_l {l : List Int} (hl : l.length ≤ 9223372036854775807) {y : Int} {H : Heap} : ∀ (m i : Nat), l.length - i = m → i ≤ l.length →
    ∃ r : Int, slices_Index_int_int_l1 H.length (.vs (l.map (V.int .i64))) (.int .i64 y) (.int .i64 l.length) (.int .i64 i) H = some (.ret (.int .i64 r), H) ∧ (0 ≤ r ↔ (l.drop i).any (fun x => decide (x = y)) = true)
  | m, i, hm, hi => by
    rw [slices_Index_int_int_l1_eq]
    by_cases h : i < l.length
    · have h' : (i : Int) < (l.length : Int) := by omega
      obtain ⟨m, rfl⟩ : ∃ k, m = k + 1 := ⟨m - 1, by omega⟩
      rw [List.drop_eq_getElem_cons h, List.any_cons]
      by_cases hq : y = l[i]
      · refine ⟨i, ?_, by simp [hq]⟩
        simp (maxDischargeDepth := 9) only [Qah, Qbe, Qea, Qee, Qei, Qda, Qfk, Qhm, Qgh, decide_true, h', idxE h, hq]
      · obtain ⟨r, i1, i2⟩ := c_IndexN_l hl (y := y) (H := H) m (i + 1) (by omega) (by omega)
        refine ⟨r, ?_, ?_⟩
        · simp (maxDischargeDepth := 9) only [Qah, Qbe, Qbd, Qea, Qee, Qei, Qda, Qfk, Qhm, Qgh, decide_true, decide_false, h', idxE h, hq, wrap_in h hl, i1]
        · have hq' : ¬ l[i] = y := fun e => hq e.symm
          simpa [hq'] using i2
    · have h' : ¬ (i : Int) < (l.length : Int) := by omega
      refine ⟨-1, ?_, ?_⟩
      · simp (maxDischargeDepth := 9) only [Qah, Qbd, Qea, Qei, Qda, Qgh, decide_false, h']
      · rw [List.drop_of_length_le (by omega)]; simp
theorem c_ContainsN {l : List Int} (hl : l.length ≤ 9223372036854775807) (y : Int) (H : Heap) : E n_slices_Contains_int_int [.vs (l.map (V.int .i64)), .int .i64 y] H = some (.ret (.bool (Te.inL l y)), H) := by
  obtain ⟨r, h1, h2⟩ := c_IndexN_l hl (y := y) (H := H) l.length 0 rfl (Nat.zero_le _)
  rw [List.drop_zero] at h2
  simp only [Qam] at h1
  have h3 : E n_slices_Index_int_int [.vs (l.map (V.int .i64)), .int .i64 y] H = some (.ret (.int .i64 r), H) := by
    rw [slices_Index_int_int_E, slices_Index_int_int_eq]
    simp only [Qff, List.length_map, Qah]
    exact h1
  rw [slices_Contains_int_int_E, slices_Contains_int_int_eq]
  have h4 : decide (0 ≤ r) = Te.inL l y := by unfold Te.inL; rw [Bool.eq_iff_iff, decide_eq_true_eq]; exact h2
  simp (maxDischargeDepth := 9) only [Qah, Qab, Qef, Qda, Qgf, h3, h4]

theorem strsV_map : ∀ l : List (List UInt8), strsV (l.map V.str) = some l
  | [] => rfl
  | s :: l => by simp [strsV, strsV_map l]
theorem i4_Join {l : List (List UInt8)} {sep : List UInt8} (h1 : l.length ≤ 140737488355328) (h2 : (Lib.join l sep).length ≤ 140737488355328) (H : Heap) : E n_strings_Join [.vs (l.map V.str), .str sep] H = some (.ret (.str (Lib.join l sep)), H) := by
  have e1 : allLen 1 (l.map V.str) = true := by
    clear h1 h2
    induction l with
    | nil => rfl
    | cons a l ih => simpa [allLen] using ih
  have e2 : flat (l.map V.str) = l.map V.str := by
    clear h1 h2 e1
    induction l with
    | nil => rfl
    | cons a l ih => simp only [List.map_cons, flat, ih]; rfl
  rw [show E = EV Tryd.prog hint D from rfl, EV_intr (g := iRd gJoin) rfl]
  unfold iRd gJoin
  simp only [slLen, slCells, e1, e2, if_true, Option.bind_some, strsV_map, h1, h2, and_self, Option.map_some]
theorem i4_Itoa {n : Int} (h0 : -9223372036854775808 ≤ n) (h1 : n ≤ 9223372036854775807) (H : Heap) : E n_strconv_Itoa [.int .i64 n] H = some (.ret (.str (Lib.itoa n)), H) := by
  rw [show E = EV Tryd.prog hint D from rfl, EV_intr (g := iRd gItoa) rfl]
  unfold iRd gItoa
  simp only [h0, h1, and_self, if_true, Option.map_some]

theorem c_eachI_l {l : List Int} (hl : l.length ≤ 9223372036854775807) {f : FuncId} {cap : List V} {q : Int → List UInt8} {H : Heap} (hf : ∀ x ∈ l, ∀ H, E f (.int .i64 x :: cap) H = some (.ret (.str (q x)), H)) : ∀ (m i : Nat), l.length - i = m → i ≤ l.length → ∀ rest : List V, rest.length = m →
    teller_each_int_l1 H.length (.fn f cap) (.rs H.length 0 1 0 l.length) (encI l) (.int .i64 l.length) (.int .i64 i) (.row 0 1 false ((l.take i).map (fun x => V.str (q x)) ++ rest) :: H) = some (.ret (.vs ((l.map q).map V.str)), H)
  | m, i, hm, hi, rest, hr => by
    rw [teller_each_int_l1_eq, encI]
    by_cases h : i < l.length
    · have h' : (i : Int) < (l.length : Int) := by omega
      obtain ⟨m, rfl⟩ : ∃ k, m = k + 1 := ⟨m - 1, by omega⟩
      obtain ⟨y, rest, rfl⟩ : ∃ y r, rest = y :: r := by cases rest with
        | nil => simp at hr
        | cons y r => exact ⟨y, r, rfl⟩
      have hx := hf l[i] (List.getElem_mem h)
      have hA : ((l.take i).map (fun x => V.str (q x))).length = i := by simp; omega
      have hsp := splice_at (a := (l.take i).map (fun x => V.str (q x))) (b := rest) (x := y) (y := .str (q l[i])) hA
      have ih := c_eachI_l hl (H := H) hf m (i + 1) (by omega) (by omega) rest (by simpa using hr)
      have hT : (l.take (i + 1)).map (fun x => V.str (q x)) ++ rest = (l.take i).map (fun x => V.str (q x)) ++ V.str (q l[i]) :: rest := by
        rw [List.take_succ_eq_append_getElem h, List.map_append, List.append_assoc]; rfl
      rw [hT] at ih
      rw [encI] at ih
      have hle : i + 1 ≤ ((l.take i).map (fun x => V.str (q x)) ++ y :: rest).length := by rw [List.length_append, hA]; simp
      have hip : oIndexPtr 1 (.rs H.length 0 1 0 l.length) (.int .i64 (i : Int)) = some (.ptr H.length 0 i) := by rw [oIndexPtr_rs h]; simp
      have hst : oStore H.length 1 (.row 0 1 false ((l.take i).map (fun x => V.str (q x)) ++ y :: rest) :: H) (.ptr H.length 0 i) (.str (q l[i])) = some (.tup [], .row 0 1 false ((l.take i).map (fun x => V.str (q x)) ++ V.str (q l[i]) :: rest) :: H) := by
        rw [oStore_ptr, hget_new, Qhj, if_pos ⟨rfl, rfl, .inl (Nat.le_refl _), rfl, hle⟩, Qct]
        rw [Qbb, hsp]
      simp only [Qah, Qei, h', decide_true, Qbe, idxE h, Qfk, Qhm, Qes, List.cons_append, List.nil_append, hx, Qab, hip, hst, Qag, Qea, wrap_in h hl, ih]
    · have h' : ¬ (i : Int) < (l.length : Int) := by omega
      have hr0 : rest = [] := List.eq_nil_of_length_eq_zero (by omega)
      subst hr0
      have e : (l.take i).map (fun x => V.str (q x)) ++ [] = (l.map q).map V.str := by rw [List.take_of_length_le (by omega)]; simp
      rw [e]
      have hfz := frz_strs (H := .row 0 1 false ((l.map q).map V.str) :: H) (base := H.length) (n := 10) (i := H.length) (ver := 0) (m := l.length) (ag := false) (l := l.map q) (by simp) (Nat.le_refl _) (by simp) rfl
      simp (maxDischargeDepth := 9) only [Qah, Qbd, Qes, Qea, Qei, Qda, Qdw, Qcu, Qgk, Qgd, Qbf, decide_false, if_true, List.nil_append, List.cons_append, Nat.reduceAdd, Nat.le_refl, Nat.zero_le, h', hfz]
theorem c_eachI {l : List Int} (hl : l.length ≤ 1000000000) {f : FuncId} {cap : List V} {q : Int → List UInt8} {H : Heap} (hf : ∀ x ∈ l, ∀ H, E f (.int .i64 x :: cap) H = some (.ret (.str (q x)), H)) :
    E n_teller_each_int [encI l, .fn f cap] H = some (.ret (.vs ((l.map q).map V.str)), H) := by
  have k := c_eachI_l (by omega) (H := H) hf l.length 0 rfl (Nat.zero_le _) (List.replicate l.length (.str [])) (by simp)
  simp only [Qam, List.take_zero, List.map_nil, List.nil_append] at k
  have hm := oMake_at (n := 1) (by_ := 16) (ag := false) (z := [.str []]) (k := .i64) (l := .i64) (m := l.length) (H := H) (by simp [roomOk]; omega) (by omega) rfl (by omega) rfl
  rw [repl_one] at hm
  rw [teller_each_int_E, teller_each_int_eq]
  simp only [lenI, Qah, hm, Qag]
  exact k
theorem c4_numbers {n : List Int} {sep : List UInt8} (hn : n.length ≤ 1000000000) (h : n.all Te.numC = true) (hlen : (Te.numbers n sep).length ≤ 100000000000000) (H : Heap) :
    E n_teller_numbers [encI n, .str sep] H = some (.ret (.str (Te.numbers n sep)), H) := by
  have hd : ∀ x ∈ n, ∀ H, E n_teller_digits (.int .i64 x :: []) H = some (.ret (.str (Te.hex x.toNat)), H) := fun x hx H => by
    have := List.all_eq_true.1 h x hx
    simp only [Te.numC, Bool.and_eq_true, decide_eq_true_eq] at this
    exact c4_digits this.1 this.2 H
  have he := fun H => c_eachI (H := H) hn hd
  have hl2 : (Lib.join (n.map fun x => Te.hex x.toNat) sep).length + 2 ≤ 100000000000000 := by
    have h' := hlen
    simp only [Te.numbers, List.length_append, List.length_cons, List.length_nil] at h'
    omega
  have hj := fun H => i4_Join (l := n.map fun x => Te.hex x.toNat) (sep := sep) (by simp; omega) (by omega) H
  have hc : oBin .add 6 (.str [37, 120]) (.str (Lib.join (n.map fun x => Te.hex x.toNat) sep)) = some (.str (Te.numbers n sep)) := oBin_cat _ _ _ (by simp; omega)
  rw [teller_numbers_E, teller_numbers_eq]
  simp (maxDischargeDepth := 9) only [Qah, Qab, Qda, Qgl, he, hj, hc]

theorem itoa_len {n : Int} (h0 : 0 ≤ n) (h1 : n ≤ 200) : (Lib.itoa n).length ≤ 3 := by
  have : ∀ k : Nat, k ≤ 200 → (Lib.itoa (k : Int)).length ≤ 3 := by
    intro k hk
    unfold Lib.itoa
    rw [if_neg (by omega), show ((k : Int)).toNat = k by omega, Lib.decDigits]
    split
    · simp
    · rw [Lib.decDigits]
      split
      · simp
      · rw [Lib.decDigits, dif_pos (by omega)]; simp
  obtain ⟨k, rfl⟩ : ∃ k : Nat, n = k := ⟨n.toNat, by omega⟩
  exact this k (by omega)
theorem c4_often {lo hi : Int} {k : Int} {t : List UInt8} {n : List Int} {ks : List Rd.Expr} (h0 : 0 ≤ lo) (h1 : lo ≤ 200) (h2 : hi ≤ 200) (h3 : -1 ≤ hi) (H : Heap) :
    E n_teller_often [.agg [.int .i64 k, .str t, encI n, .int .i64 lo, .int .i64 hi, .vs (encEs ks)]] H = some (.ret (.str (Te.often lo hi)), H) := by
  rw [teller_often_E, teller_often_eq]
  unfold Te.often
  have a1 : ∀ H, E n_strconv_Itoa [.int .i64 lo] H = some (.ret (.str (Lib.itoa lo)), H) := fun H => i4_Itoa (by omega) (by omega) H
  have a2 : ∀ H, E n_strconv_Itoa [.int .i64 hi] H = some (.ret (.str (Lib.itoa hi)), H) := fun H => i4_Itoa (by omega) (by omega) H
  have l1 := itoa_len h0 h1
  by_cases hz : hi = 0
  · simp (maxDischargeDepth := 9) only [Qah, Qag, Qbe, Qew, Qee, Qeg, Qda, Qdc, Qhm, Qgl, Qao, Qgr, Qgq, Qgv, Qhe, Qhf, Qcu, Qcm, Qfy, Qbs, decide_true, if_true, List.drop_zero, List.drop_succ_cons, Nat.zero_add, Bool.and_true, oLoad_ptr, Nat.le_refl, hz]
  · have c1 : oBin .add 6 (.str (Lib.itoa lo)) (.str [42]) = some (.str (Lib.itoa lo ++ [42])) := oBin_cat _ _ _ (by simp; omega)
    have c2 : oBin .add 6 (.str []) (.str [42]) = some (.str [42]) := oBin_cat _ _ _ (by simp)
    by_cases hl : 0 < lo
    · by_cases he : hi = lo
      · simp (maxDischargeDepth := 9) only [Qah, Qag, Qab, Qbe, Qbd, Qew, Qee, Qek, Qeg, Qef, Qda, Qdc, Qhm, Qgl, Qao, Qgr, Qgq, Qgv, Qhe, Qhf, Qcu, Qcm, Qfy, Qbs, decide_true, Bool.not_true, if_true, List.drop_zero, List.drop_succ_cons, Nat.zero_add, Bool.and_true, List.append_nil, oLoad_ptr, Nat.le_refl, hz, hl, he, a1, teller_often_j1_eq, teller_often_j2_eq]
        simp [show ¬ lo = 0 by omega]
      · by_cases hp : 0 ≤ hi
        · have l2 := itoa_len hp h2
          have c3 : oBin .add 6 (.str (Lib.itoa lo ++ [42])) (.str (Lib.itoa hi)) = some (.str (Lib.itoa lo ++ 42 :: Lib.itoa hi)) := by rw [oBin_cat _ _ _ (by simp; omega)]; simp
          simp (maxDischargeDepth := 9) only [Qah, Qag, Qab, Qbe, Qbd, Qew, Qee, Qek, Qeg, Qef, Qda, Qdc, Qhm, Qgl, Qao, Qgr, Qgq, Qgv, Qhe, Qhf, Qcu, Qcm, Qfy, Qbs, decide_true, decide_false, Bool.not_false, if_true, if_false, List.drop_zero, List.drop_succ_cons, Nat.zero_add, Bool.and_true, oLoad_ptr, Nat.le_refl, hz, hl, he, hp, a1, a2, c1, c3, teller_often_j1_eq, teller_often_j2_eq]
        · simp (maxDischargeDepth := 9) only [Qah, Qag, Qab, Qbe, Qbd, Qew, Qee, Qek, Qeg, Qef, Qda, Qdc, Qhm, Qgl, Qao, Qgr, Qgq, Qgv, Qhe, Qhf, Qcu, Qcm, Qfy, Qbs, decide_true, decide_false, Bool.not_false, if_true, if_false, List.drop_zero, List.drop_succ_cons, Nat.zero_add, Bool.and_true, oLoad_ptr, Nat.le_refl, hz, hl, he, hp, a1, a2, c1, teller_often_j1_eq, teller_often_j2_eq]
    · by_cases he : hi = lo
      · omega
      · by_cases hp : 0 ≤ hi
        · have l2 := itoa_len hp h2
          have c3 : oBin .add 6 (.str [42]) (.str (Lib.itoa hi)) = some (.str (42 :: Lib.itoa hi)) := by rw [oBin_cat _ _ _ (by simp; omega)]; simp
          simp (maxDischargeDepth := 9) only [Qah, Qag, Qab, Qbe, Qbd, Qew, Qee, Qek, Qeg, Qef, Qda, Qdc, Qhm, Qgl, Qao, Qgr, Qgq, Qgv, Qhe, Qhf, Qcu, Qcm, Qfy, Qbs, decide_true, decide_false, Bool.not_false, if_true, if_false, List.drop_zero, List.drop_succ_cons, Nat.zero_add, Bool.and_true, List.nil_append, oLoad_ptr, Nat.le_refl, hz, hl, he, hp, a2, c2, c3, teller_often_j1_eq, teller_often_j2_eq]
        · simp (maxDischargeDepth := 9) only [Qah, Qag, Qab, Qbe, Qbd, Qew, Qee, Qek, Qeg, Qef, Qda, Qdc, Qhm, Qgl, Qao, Qgr, Qgq, Qgv, Qhe, Qhf, Qcu, Qcm, Qfy, Qbs, decide_false, Bool.not_false, if_false, List.drop_zero, List.drop_succ_cons, Nat.zero_add, Bool.and_true, List.nil_append, oLoad_ptr, Nat.le_refl, hz, hl, he, hp, a2, c2, teller_often_j1_eq, teller_often_j2_eq]
end Go.Proofs.YthcjjicplodhjaaDoor
end

section
/- Expressions as texts: the teller. -/
namespace Go.Proofs.YthcjjicplodhjaaDoor
open Go Go.Ev
set_option linter.unusedVariables false
set_option linter.unusedSimpArgs false

theorem c_eachE_l {l : List Rd.Expr} (hl : l.length ≤ 9223372036854775807) {f : FuncId} {cap : List V} {q : Rd.Expr → List UInt8} {H : Heap} (hf : ∀ x ∈ l, ∀ G : Heap, E f (encE x :: cap) (G ++ H) = some (.ret (.str (q x)), G ++ H)) : ∀ (m i : Nat), l.length - i = m → i ≤ l.length → ∀ (rest : List V) (G : Heap), rest.length = m →
    teller_each_api_Expr_l1 H.length (.fn f cap) (.rs H.length 0 1 0 l.length) (.vs (encEs l)) (.int .i64 l.length) (.int .i64 i) (G ++ .row 0 1 false ((l.take i).map (fun x => V.str (q x)) ++ rest) :: H) = some (.ret (.vs ((l.map q).map V.str)), H)
  | m, i, hm, hi, rest, G, hr => by
    rw [teller_each_api_Expr_l1_eq]
    by_cases h : i < l.length
    · have h' : (i : Int) < (l.length : Int) := by omega
      obtain ⟨m, rfl⟩ : ∃ k, m = k + 1 := ⟨m - 1, by omega⟩
      obtain ⟨y, rest, rfl⟩ : ∃ y r, rest = y :: r := by cases rest with
        | nil => simp at hr
        | cons y r => exact ⟨y, r, rfl⟩
      have hA : ((l.take i).map (fun x => V.str (q x))).length = i := by simp; omega
      have hsp := splice_at (a := (l.take i).map (fun x => V.str (q x))) (b := rest) (x := y) (y := .str (q l[i])) hA
      have hT : (l.take (i + 1)).map (fun x => V.str (q x)) ++ rest = (l.take i).map (fun x => V.str (q x)) ++ V.str (q l[i]) :: rest := by
        rw [List.take_succ_eq_append_getElem h, List.map_append, List.append_assoc]; rfl
      have hle : i + 1 ≤ ((l.take i).map (fun x => V.str (q x)) ++ y :: rest).length := by rw [List.length_append, hA]; simp
      have hip : oIndexPtr 1 (.rs H.length 0 1 0 l.length) (.int .i64 (i : Int)) = some (.ptr H.length 0 i) := by rw [oIndexPtr_rs h]; simp
      generalize hc : (l.take i).map (fun x => V.str (q x)) ++ y :: rest = cs at hle hsp
      have hx := hf l[i] (List.getElem_mem h) (.var (encE l[i]).cells :: (G ++ [.row 0 1 false cs]))
      have ih := c_eachE_l hl (H := H) hf m (i + 1) (by omega) (by omega) rest (.var (encE l[i]).cells :: G) (by simpa using hr)
      rw [hT] at ih
      have eG : (.var (encE l[i]).cells :: (G ++ [.row 0 1 false cs])) ++ H = .var (encE l[i]).cells :: (G ++ .row 0 1 false cs :: H) := by simp
      rw [eG] at hx
      have hlt : H.length < (G ++ Blk.row 0 1 false cs :: H).length := by simp; omega
      have hg : hget (.var (encE l[i]).cells :: (G ++ Blk.row 0 1 false cs :: H)) H.length = some (.row 0 1 false cs) := by
        rw [hget_old _ hlt, hget_app (by simp), hget_new]
      have hst : oStore H.length 1 (.var (encE l[i]).cells :: (G ++ Blk.row 0 1 false cs :: H)) (.ptr H.length 0 i) (.str (q l[i])) = some (.tup [], .var (encE l[i]).cells :: G ++ .row 0 1 false ((l.take i).map (fun x => V.str (q x)) ++ V.str (q l[i]) :: rest) :: H) := by
        rw [oStore_ptr, hg, Qhj, if_pos ⟨rfl, rfl, .inl (Nat.le_refl _), rfl, hle⟩, hset_below (Nat.ne_of_lt hlt), hset_app (by simp), Qct]
        rw [Qbb, hsp]; rfl
      have hsv : oStore H.length 6 (.var [.int .i64 0, .str [], .nils, .int .i64 0, .int .i64 0, .nils] :: (G ++ Blk.row 0 1 false cs :: H)) (.ptr (G ++ Blk.row 0 1 false cs :: H).length 0 0) (encE l[i]) = some (.tup [], .var (encE l[i]).cells :: (G ++ Blk.row 0 1 false cs :: H)) := by
        have h6 := Qbh l[i]
        rw [oStore_ptr, hget_new, Qhk, if_pos ⟨h6, Qbn _, .inr (by simp), rfl, by simp⟩, Qct]
        simp [Qhi, h6]
      have hld : oLoad true 6 (.var (encE l[i]).cells :: (G ++ Blk.row 0 1 false cs :: H)) (.ptr (G ++ Blk.row 0 1 false cs :: H).length 0 0) = some (encE l[i]) := by
        rw [oLoad_ptr, hget_new, Qdc, List.drop_zero, takeE]
      have hv : oVar (G ++ Blk.row 0 1 false cs :: H) (.agg [.int .i64 0, .str [], .nils, .int .i64 0, .int .i64 0, .nils]) = some (.ptr (G ++ Blk.row 0 1 false cs :: H).length 0 0, .var [.int .i64 0, .str [], .nils, .int .i64 0, .int .i64 0, .nils] :: (G ++ Blk.row 0 1 false cs :: H)) := oVar_ok rfl
      simp only [Qah, Qei, h', decide_true, Qbe, idxK h, Qfk, takeE, hv, hsv, hld, Qes, List.cons_append, List.nil_append, hx, Qab, hip, Qag, Qea, wrap_in h hl]
      rw [hst]
      simp only [Qag, Qah]
      exact ih
    · have h' : ¬ (i : Int) < (l.length : Int) := by omega
      have hr0 : rest = [] := List.eq_nil_of_length_eq_zero (by omega)
      subst hr0
      have e : (l.take i).map (fun x => V.str (q x)) ++ [] = (l.map q).map V.str := by rw [List.take_of_length_le (by omega)]; simp
      rw [e]
      have hg : hget (G ++ Blk.row 0 1 false ((l.map q).map V.str) :: H) H.length = some (.row 0 1 false ((l.map q).map V.str)) := by rw [hget_app (by simp), hget_new]
      have hfz := frz_strs (H := G ++ .row 0 1 false ((l.map q).map V.str) :: H) (base := H.length) (n := 10) (i := H.length) (ver := 0) (m := l.length) (ag := false) (l := l.map q) hg (Nat.le_refl _) (by simp) rfl
      have htr : htrunc (G ++ Blk.row 0 1 false ((l.map q).map V.str) :: H) H.length = H := by rw [htrunc_app (by simp), htrunc_cons (Nat.le_refl _), Qda]
      simp (maxDischargeDepth := 9) only [Qah, Qag, Qbd, Qes, Qea, Qei, Qao, Qgr, Qgq, Qgv, Qhe, Qhb, Qdw, Qhk, Qhi, Qcm, Qcq, Qfy, Qgk, Qgd, Qbf, decide_false, if_true, List.length_cons, List.length_nil, Nat.zero_add, Bool.and_true, List.nil_append, List.cons_append, Nat.reduceAdd, oLoad_ptr, oStore_ptr, Nat.le_refl, Nat.zero_le, and_true, and_self, h', hfz, htr]
theorem c_eachE {l : List Rd.Expr} (hl : l.length ≤ 10000000000) {f : FuncId} {cap : List V} {q : Rd.Expr → List UInt8} {H : Heap} (hf : ∀ x ∈ l, ∀ G : Heap, E f (encE x :: cap) (G ++ H) = some (.ret (.str (q x)), G ++ H)) :
    E n_teller_each_api_Expr [.vs (encEs l), .fn f cap] H = some (.ret (.vs ((l.map q).map V.str)), H) := by
  have k := c_eachE_l (by omega) (H := H) hf l.length 0 rfl (Nat.zero_le _) (List.replicate l.length (.str [])) [] (by simp)
  simp only [Qam, List.take_zero, List.map_nil, List.nil_append] at k
  have hm := oMake_at (n := 1) (by_ := 16) (ag := false) (z := [.str []]) (k := .i64) (l := .i64) (m := l.length) (H := H) (by simp [roomOk]; omega) (by omega) rfl (by omega) rfl
  rw [repl_one] at hm
  rw [teller_each_api_Expr_E, teller_each_api_Expr_eq]
  simp only [lenE, Qah, hm, Qag]
  exact k
theorem c4_texts_1 {x : Rd.Expr} {b : List Int} {s : List UInt8} {H : Heap} {j : Nat} (hb : b.length ≤ 9223372036854775807) (hg : hget H j = some (.var [.vs (b.map (V.int .i64))])) (hs : s.length ≤ 10000000000) (hx : ∀ H, E n_teller_text [encE x] H = some (.ret (.str s), H)) :
    E n_teller_texts_1 [encE x, .ptr j 0 0] H = some (.ret (.str (Te.wrapB (Te.inL b (Te.kindE x)) s)), H) := by
  have hj := hget_lt hg
  have h0 : ∃ cs, (encE x).cells = .int .i64 (Te.kindE x) :: cs := by cases x; exact ⟨_, rfl⟩
  obtain ⟨cs, h0⟩ := h0
  have hlen : cs.length = 5 := by have := Qbh x; rw [h0] at this; simpa using this
  have htk : takeCells true 6 (.int .i64 (Te.kindE x) :: cs) = some (encE x) := by rw [← h0]; exact takeE x
  have hsc : scalL (.int .i64 (Te.kindE x) :: cs) = true := by rw [← h0]; exact Qbn x
  have hN := fun H => c_ContainsN hb (Te.kindE x) H
  have c1 : oBin .add 6 (.str [40]) (.str s) = some (.str (40 :: s)) := oBin_cat _ _ _ (by simp; omega)
  have c2 : oBin .add 6 (.str (40 :: s)) (.str [41]) = some (.str (40 :: (s ++ [41]))) := oBin_cat _ _ _ (by simp; omega)
  rw [teller_texts_1_E, teller_texts_1_eq]
  unfold Te.wrapB
  cases hq : Te.inL b (Te.kindE x) <;> simp (maxDischargeDepth := 9) only [Qah, Qag, Qab, Qbe, Qbd, Qew, Qda, Qdc, Qhm, Qgl, Qcu, Qcn, Qcm, Qfy, if_true, if_false, List.drop_zero, Nat.add_zero, Bool.false_eq_true, oLoad_ptr, Nat.le_refl, h0, hsc, hg, hj, hget_old, htk, hN, hq, hx, c1, c2]
theorem c4_texts {ks : List Rd.Expr} {b : List Int} (hb : b.length ≤ 1000) (hks : ks.length ≤ 10000000000) {H : Heap} (hx : ∀ x ∈ ks, (Te.text x).length ≤ 10000000000 ∧ ∀ H, E n_teller_text [encE x] H = some (.ret (.str (Te.text x)), H)) :
    E n_teller_texts [.vs (encEs ks), .vs (b.map (V.int .i64))] H = some (.ret (.vs ((Te.textsL b ks).map V.str)), H) := by
  have he := c_eachE (f := n_teller_texts_1) (cap := [.ptr H.length 0 0]) (q := fun x => Te.wrapB (Te.inL b (Te.kindE x)) (Te.text x)) (H := .var [.vs (b.map (V.int .i64))] :: H) hks (fun x h G => by
    obtain ⟨h1, h2⟩ := hx x h
    exact c4_texts_1 (by omega) (by rw [hget_app (by simp), hget_new]) h1 h2)
  rw [teller_texts_E, teller_texts_eq, Te.textsL_map]
  simp (maxDischargeDepth := 9) only [Qah, Qag, Qab, Qfo, Qda, Qbc, Qgr, Qgq, Qhf, Qcu, Qfy, Qgo, Bool.and_true, Nat.le_refl, he]
end Go.Proofs.YthcjjicplodhjaaDoor
end

section
/- Expressions as texts: the teller, whole. -/
namespace Go.Proofs.YthcjjicplodhjaaDoor
open Go Go.Ev
set_option linter.unusedVariables false
set_option linter.unusedSimpArgs false

theorem oLit_ints {z : V} (l : List Int) {ps : List (Nat × V)} {n : Nat} (h : ps = (List.range n).zip (l.map (V.int .i64))) (hn : n = l.length) (h1 : n ≤ 3) : oLit 1 n z ps = some (.vs (l.map (V.int .i64))) := by
  subst hn
  rw [oLit_eq]
  match l, h1 with
  | [], _ => subst h; simp [rLit, okParts, setAll]
  | [a], _ => subst h; simp [rLit, okParts, setAll, List.range, List.range.loop, V.nrm, V.clean]
  | [a, b], _ => subst h; simp [rLit, okParts, setAll, List.range, List.range.loop, V.nrm, V.clean]
  | [a, b, c], _ => subst h; simp [rLit, okParts, setAll, List.range, List.range.loop, V.nrm, V.clean]
theorem right_kids {d : Nat} {k lo hi : Int} {t : List UInt8} {n : List Int} {ks : List Rd.Expr} (h : Te.right d (.mk k t n lo hi ks) = true) : Te.own k t n lo hi ks.length = true ∧ ∀ x ∈ ks, Te.right (d - 1) x = true := by
  cases d with
  | zero =>
    simp only [Te.right, Bool.and_eq_true, List.isEmpty_iff] at h
    obtain ⟨rfl, h⟩ := h
    exact ⟨h, by simp⟩
  | succ d =>
    simp only [Te.right, Bool.and_eq_true, List.all_eq_true] at h
    exact ⟨h.2, h.1⟩
theorem c4_text : ∀ (d : Nat) {e : Rd.Expr}, e.Fit → Te.right d e = true → (Te.text e).length ≤ 1000000000 → ∀ H : Heap, E n_teller_text [encE e] H = some (.ret (.str (Te.text e)), H)
  | d, e, he, hr, hlen, H => by
    cases he with
    | @mk k t n lo hi ks ht hn hks hf =>
      obtain ⟨hown, hkr⟩ := right_kids hr
      have hd0 : ks ≠ [] → 0 < d := fun hne => by
        cases d with
        | zero => cases ks with
          | nil => exact absurd rfl hne
          | cons x ks => simp [Te.right] at hr
        | succ d => omega
      have hrec : ∀ x ∈ ks, (Te.text x).length ≤ 1000000000 → ∀ H, E n_teller_text [encE x] H = some (.ret (.str (Te.text x)), H) := fun x hx hl H => by
        have h0 : 0 < d := hd0 (by rintro rfl; simp at hx)
        exact c4_text (d - 1) (hf x hx) (hkr x hx) hl H
      rw [teller_text_E, teller_text_eq]
      simp only [encE]
      have l1 : oLit 1 1 (.int .i64 0) [(0, .int .i64 1)] = some (.vs ([1].map (V.int .i64))) := oLit_ints [1] rfl rfl (by omega)
      have l2 : oLit 1 2 (.int .i64 0) [(0, .int .i64 1), (1, .int .i64 2)] = some (.vs ([1, 2].map (V.int .i64))) := oLit_ints [1, 2] rfl rfl (by omega)
      have l3 : oLit 1 3 (.int .i64 0) [(0, .int .i64 1), (1, .int .i64 2), (2, .int .i64 3)] = some (.vs ([1, 2, 3].map (V.int .i64))) := oLit_ints [1, 2, 3] rfl rfl (by omega)
      by_cases h1 : k = 1
      · subst h1
        have et : Te.text (.mk 1 t n lo hi ks) = Lib.join (Te.textsL [1] ks) [32, 47, 32] := by rw [Te.text, if_pos rfl]
        rw [et] at hlen ⊢
        have hkl : ks.length ≤ 1000000001 := by have := Te.join_len (sep := [32, 47, 32]) (by simp) (Te.textsL [1] ks); rw [Te.textsL_length] at this; omega
        have hx : ∀ x ∈ ks, (Te.text x).length ≤ 10000000000 ∧ ∀ H, E n_teller_text [encE x] H = some (.ret (.str (Te.text x)), H) := fun x hx => by
          obtain ⟨s, hs, hsl⟩ := Te.textsL_mem (b := [1]) hx
          have := Te.join_mem (sep := [32, 47, 32]) hs
          exact ⟨by omega, hrec x hx (by omega)⟩
        have hT := fun H => c4_texts (b := [1]) (H := H) (by simp) (by omega) hx
        have hJ := fun H => i4_Join (l := Te.textsL [1] ks) (sep := [32, 47, 32]) (by rw [Te.textsL_length]; omega) (by omega) H
        simp (maxDischargeDepth := 9) only [Qah, Qag, Qab, Qbe, Qew, Qee, Qda, Qdc, Qhm, Qgl, Qao, Qgr, Qgq, Qgv, Qhe, Qhf, Qcu, Qcm, Qfy, Qhl, Qbs, decide_true, List.drop_zero, List.drop_succ_cons, List.length_cons, List.length_nil, Nat.add_zero, Nat.zero_add, Bool.and_true, Nat.reduceAdd, oLoad_ptr, Nat.le_refl, List.take_zero, List.take_succ_cons, l1, hT, hJ]
      by_cases h2 : k = 2
      · subst h2
        have et : Te.text (.mk 2 t n lo hi ks) = Lib.join (Te.textsL [1, 2] ks) [32] := by rw [Te.text, if_neg (by omega), if_pos rfl]
        rw [et] at hlen ⊢
        have hkl : ks.length ≤ 1000000001 := by have := Te.join_len (sep := [32]) (by simp) (Te.textsL [1, 2] ks); rw [Te.textsL_length] at this; omega
        have hx : ∀ x ∈ ks, (Te.text x).length ≤ 10000000000 ∧ ∀ H, E n_teller_text [encE x] H = some (.ret (.str (Te.text x)), H) := fun x hx => by
          obtain ⟨s, hs, hsl⟩ := Te.textsL_mem (b := [1, 2]) hx
          have := Te.join_mem (sep := [32]) hs
          exact ⟨by omega, hrec x hx (by omega)⟩
        have hT := fun H => c4_texts (b := [1, 2]) (H := H) (by simp) (by omega) hx
        have hJ := fun H => i4_Join (l := Te.textsL [1, 2] ks) (sep := [32]) (by rw [Te.textsL_length]; omega) (by omega) H
        have q1 : ¬ (2 : Int) = 1 := by omega
        simp (maxDischargeDepth := 9) only [Qah, Qag, Qab, Qbe, Qbd, Qew, Qee, Qda, Qdc, Qhm, Qgl, Qao, Qgr, Qgq, Qgv, Qhe, Qhf, Qcu, Qcm, Qfy, Qhl, Qfi, Qbs, decide_true, decide_false, List.drop_zero, List.drop_succ_cons, List.length_cons, List.length_nil, Nat.add_zero, Nat.zero_add, Bool.and_true, Nat.reduceAdd, oLoad_ptr, Nat.le_refl, List.take_zero, List.take_succ_cons, q1, l2, hT, hJ]
      by_cases h3 : k = 3
      · subst h3
        have q1 : ¬ (3 : Int) = 1 := by omega
        have q2 : ¬ (3 : Int) = 2 := by omega
        simp only [Te.own, if_neg (show ¬ ((3 : Int) = 1 ∨ (3 : Int) = 2) by omega), if_true, Bool.and_eq_true, Bool.or_eq_true, decide_eq_true_eq] at hown
        obtain ⟨⟨⟨⟨⟨⟨⟨o1, o2⟩, o3⟩, o4⟩, o5⟩, o6⟩, o7⟩, o8⟩ := hown
        obtain ⟨x, rfl⟩ := List.length_eq_one_iff.1 o3
        have et : Te.text (.mk 3 t n lo hi [x]) = if lo = 0 ∧ hi = 1 then 91 :: (Te.wrapB (Te.inL [] (Te.kindE x)) (Te.text x) ++ [93]) else Te.often lo hi ++ Te.wrapB (Te.inL [1, 2, 3] (Te.kindE x)) (Te.text x) := by
          rw [Te.text, if_neg (by omega), if_neg (by omega), if_pos rfl]
          simp only [Te.textsL, List.headD_cons]
        have ew : Te.wrapB (Te.inL [] (Te.kindE x)) (Te.text x) = Te.text x := by simp [Te.wrapB, Te.inL]
        rw [ew] at et
        rw [et] at hlen ⊢
        have i0 : ∀ k, oIndexPtr 6 (.vs (encEs [x])) (.int k 0) = some (.fptr (encE x).cells) := fun k => idxK (l := [x]) (i := 0) (by simp) k
        by_cases hq : lo = 0 ∧ hi = 1
        · rw [if_pos hq] at hlen ⊢
          have hl' : (Te.text x).length + 2 ≤ 1000000000 := by simpa using hlen
          have hx := hrec x (by simp) (by omega)
          have c1 : oBin .add 6 (.str [91]) (.str (Te.text x)) = some (.str (91 :: Te.text x)) := oBin_cat _ _ _ (by simp; omega)
          have c2 : oBin .add 6 (.str (91 :: Te.text x)) (.str [93]) = some (.str (91 :: (Te.text x ++ [93]))) := oBin_cat _ _ _ (by simp; omega)
          simp (maxDischargeDepth := 9) only [Qah, Qag, Qab, Qbe, Qbd, Qcl, Qfu, Qew, Qee, Qda, Qdc, Qfk, Qhm, Qgl, Qao, Qgr, Qgq, Qgv, Qhe, Qhf, Qcu, Qcm, Qfy, Qhl, Qfi, Qbs, Qbh, Qbg, Qbp, decide_true, decide_false, List.drop_zero, List.drop_succ_cons, List.length_cons, List.length_nil, Nat.add_zero, Nat.zero_add, Bool.and_true, Nat.reduceAdd, oLoad_ptr, Nat.le_refl, List.take_zero, List.take_succ_cons, q1, q2, hq, i0, takeE, hx, c1, c2]
        · rw [if_neg hq] at hlen ⊢
          have hw := Te.wrapB_len (Te.inL [1, 2, 3] (Te.kindE x)) (Te.text x)
          rw [List.length_append] at hlen
          have hT := fun H => c4_texts (ks := [x]) (b := [1, 2, 3]) (H := H) (by simp) (by simp) (fun y hy => by
            have : y = x := by simpa using hy
            subst this
            exact ⟨by omega, hrec y (by simp) (by omega)⟩)
          have hO := fun H => c4_often (k := 3) (t := t) (n := n) (ks := [x]) o4 o5 o6 o7 H
          have c1 : oBin .add 6 (.str (Te.often lo hi)) (.str (Te.wrapB (Te.inL [1, 2, 3] (Te.kindE x)) (Te.text x))) = some (.str (Te.often lo hi ++ Te.wrapB (Te.inL [1, 2, 3] (Te.kindE x)) (Te.text x))) := oBin_cat _ _ _ (by omega)
          have j0 : ∀ k s, oIndexPtr 1 (.vs [.str s]) (.int k 0) = some (.fptr [.str s]) := fun k s => oIndexPtr_vs (j := 0) (y := .str s) rfl rfl
          simp only [Te.textsL, List.map_cons, List.map_nil] at hT
          have hb : (decide (lo = 0) && decide (hi = 1)) = false := by simpa using hq
          by_cases hlo : lo = 0
          · have hhi : ¬ hi = 1 := fun h => hq ⟨hlo, h⟩
            simp (maxDischargeDepth := 9) only [Qah, Qag, Qbe, Qbd, Qcl, Qfu, Qew, Qee, Qda, Qdc, Qhm, Qgl, Qao, Qgr, Qgq, Qgv, Qhe, Qhf, Qcu, Qcm, Qfy, Qhl, Qfi, Qbs, decide_true, decide_false, List.drop_zero, List.drop_succ_cons, List.length_cons, List.length_nil, Nat.add_zero, Nat.zero_add, Bool.and_true, Nat.reduceAdd, oLoad_ptr, Nat.le_refl, List.take_zero, List.take_succ_cons, q1, q2, hlo, hhi] at hO c1 ⊢
            simp (maxDischargeDepth := 9) only [Qah, Qab, Qhg, Qgp, Qda, Qdc, Qfk, Qhm, Qgl, Qcu, Qcm, List.drop_zero, List.drop_succ_cons, Nat.le_refl, q1, q2, hlo, hhi, hO, l3, hT, j0, c1, List.map_cons, List.map_nil]
          · simp (maxDischargeDepth := 9) only [Qah, Qag, Qab, Qbe, Qbd, Qci, Qhg, Qgp, Qft, Qew, Qee, Qda, Qdc, Qfk, Qhm, Qgl, Qao, Qgr, Qgq, Qgv, Qhe, Qhf, Qcu, Qcm, Qfy, Qhl, Qfi, Qbs, decide_true, decide_false, List.drop_zero, List.drop_succ_cons, List.length_cons, List.length_nil, Nat.add_zero, Nat.zero_add, Bool.and_true, Nat.reduceAdd, oLoad_ptr, Nat.le_refl, List.take_zero, List.take_succ_cons, q1, q2, hlo, hO, l3, hT, j0, c1, List.map_cons, List.map_nil]
      by_cases h4 : k = 4
      · subst h4
        have et : Te.text (.mk 4 t n lo hi ks) = t := by rw [Te.text]; simp
        rw [et]
        have q1 : ¬ (4 : Int) = 1 := by omega
        have q2 : ¬ (4 : Int) = 2 := by omega
        have q3 : ¬ (4 : Int) = 3 := by omega
        simp (maxDischargeDepth := 9) only [Qah, Qag, Qbe, Qbd, Qew, Qee, Qda, Qdc, Qhm, Qgl, Qao, Qgr, Qgq, Qgv, Qhe, Qhf, Qcu, Qcm, Qfy, Qhl, Qfi, Qbs, decide_true, decide_false, List.drop_zero, List.drop_succ_cons, List.length_cons, List.length_nil, Nat.add_zero, Nat.zero_add, Bool.and_true, Nat.reduceAdd, oLoad_ptr, Nat.le_refl, List.take_zero, List.take_succ_cons, q1, q2, q3]
      by_cases h5 : k = 5
      · subst h5
        have et : Te.text (.mk 5 t n lo hi ks) = 34 :: (t ++ [34]) := by rw [Te.text]; simp
        rw [et] at hlen ⊢
        have hl' : t.length + 2 ≤ 1000000000 := by simpa using hlen
        have q1 : ¬ (5 : Int) = 1 := by omega
        have q2 : ¬ (5 : Int) = 2 := by omega
        have q3 : ¬ (5 : Int) = 3 := by omega
        have q4 : ¬ (5 : Int) = 4 := by omega
        have c1 : oBin .add 6 (.str [34]) (.str t) = some (.str (34 :: t)) := oBin_cat _ _ _ (by simp; omega)
        have c2 : oBin .add 6 (.str (34 :: t)) (.str [34]) = some (.str (34 :: (t ++ [34]))) := oBin_cat _ _ _ (by simp; omega)
        simp (maxDischargeDepth := 9) only [Qah, Qag, Qbe, Qbd, Qew, Qee, Qda, Qdc, Qhm, Qgl, Qao, Qgr, Qgq, Qgv, Qhe, Qhf, Qcu, Qcm, Qfy, Qhl, Qfi, Qbs, decide_true, decide_false, List.drop_zero, List.drop_succ_cons, List.length_cons, List.length_nil, Nat.add_zero, Nat.zero_add, Bool.and_true, Nat.reduceAdd, oLoad_ptr, Nat.le_refl, List.take_zero, List.take_succ_cons, q1, q2, q3, q4, c1, c2]
      by_cases h6 : k = 6
      · subst h6
        have et : Te.text (.mk 6 t n lo hi ks) = Te.numbers n [46] := by rw [Te.text]; simp
        rw [et] at hlen ⊢
        have q1 : ¬ (6 : Int) = 1 := by omega
        have q2 : ¬ (6 : Int) = 2 := by omega
        have q3 : ¬ (6 : Int) = 3 := by omega
        have q4 : ¬ (6 : Int) = 4 := by omega
        have q5 : ¬ (6 : Int) = 5 := by omega
        simp only [Te.own, if_neg (show ¬ ((6 : Int) = 1 ∨ (6 : Int) = 2) by omega), if_neg q3, if_neg q4, if_neg q5, if_true, Bool.and_eq_true, Te.nums, decide_eq_true_eq] at hown
        obtain ⟨_, o1, o2, o3⟩ := hown
        have hN := fun H => c4_numbers (n := n) (sep := [46]) (by omega) o1 (by omega) H
        simp (maxDischargeDepth := 9) only [Qah, Qag, Qab, Qbe, Qbd, Qew, Qee, Qda, Qdc, Qhm, Qgl, Qao, Qgr, Qgq, Qgv, Qhe, Qhf, Qcu, Qcm, Qfy, Qhl, Qfi, Qbs, decide_true, decide_false, List.drop_zero, List.drop_succ_cons, List.length_cons, List.length_nil, Nat.add_zero, Nat.zero_add, Bool.and_true, Nat.reduceAdd, oLoad_ptr, Nat.le_refl, List.take_zero, List.take_succ_cons, q1, q2, q3, q4, q5, hN]
      by_cases h7 : k = 7
      · subst h7
        have et : Te.text (.mk 7 t n lo hi ks) = Te.numbers n [45] := by rw [Te.text]; simp
        rw [et] at hlen ⊢
        have q1 : ¬ (7 : Int) = 1 := by omega
        have q2 : ¬ (7 : Int) = 2 := by omega
        have q3 : ¬ (7 : Int) = 3 := by omega
        have q4 : ¬ (7 : Int) = 4 := by omega
        have q5 : ¬ (7 : Int) = 5 := by omega
        have q6 : ¬ (7 : Int) = 6 := by omega
        simp only [Te.own, if_neg (show ¬ ((7 : Int) = 1 ∨ (7 : Int) = 2) by omega), if_neg q3, if_neg q4, if_neg q5, if_neg q6, if_true, Bool.and_eq_true, Te.nums, decide_eq_true_eq] at hown
        obtain ⟨⟨_, o1, o2, o3⟩, _⟩ := hown
        have hN := fun H => c4_numbers (n := n) (sep := [45]) (by omega) o1 (by omega) H
        simp (maxDischargeDepth := 9) only [Qah, Qag, Qab, Qbd, Qew, Qee, Qda, Qdc, Qhm, Qgl, Qao, Qgr, Qgq, Qgv, Qhe, Qhf, Qcu, Qcm, Qfy, Qhl, Qfi, Qbs, decide_false, List.drop_zero, List.drop_succ_cons, List.length_cons, List.length_nil, Nat.add_zero, Nat.zero_add, Bool.and_true, Nat.reduceAdd, oLoad_ptr, Nat.le_refl, List.take_zero, List.take_succ_cons, q1, q2, q3, q4, q5, q6, hN]
      simp only [Te.own, if_neg (show ¬ (k = 1 ∨ k = 2) by omega), if_neg h3, if_neg h4, if_neg h5, if_neg h6, if_neg h7, Bool.false_eq_true] at hown
  termination_by d => d
end Go.Proofs.YthcjjicplodhjaaDoor
end

section
/- Expressions as texts: the document. -/
namespace Go.Proofs.YthcjjicplodhjaaDoor
open Go Go.Ev
set_option linter.unusedVariables false
set_option linter.unusedSimpArgs false

end Go.Proofs.YthcjjicplodhjaaDoor
end

section
/- Expressions and rules as texts: the document, whole. -/
namespace Go.Proofs.YthcjjicplodhjaaDoor
open Go Go.Ev
set_option linter.unusedVariables false
set_option linter.unusedSimpArgs false

end Go.Proofs.YthcjjicplodhjaaDoor
end

