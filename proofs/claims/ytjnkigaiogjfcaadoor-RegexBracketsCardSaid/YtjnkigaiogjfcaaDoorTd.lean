/- Td: a part of the proof that each law of this seat answers true at every input. No condition. -/
import Derived.Test.YtjnkigaiogjfcaaDoorTc
import Derived.Test.YtjnkigaiogjfcaaDoorXa
set_option linter.unusedVariables false
set_option linter.unusedSimpArgs false
set_option maxRecDepth 20000
section
/- Two expressions; a star: both sides. -/
namespace Go.Proofs.YtjnkigaiogjfcaaDoor
open Go Go.Ev Go.X7 Go.Srt
set_option linter.unusedVariables false
set_option linter.unusedSimpArgs false
set_option maxRecDepth 20000

theorem sameXs_len : ∀ {l m : List X}, l.length ≠ m.length → sameXs l m = false
 | [], [], h => absurd rfl h
 | [], _ :: _, _ => rfl
 | _ :: _, [], _ => rfl
 | x :: l, y :: m, h => by rw [sameXs, sameXs_len (by simpa using h), Bool.and_false]
theorem same_drop {l m : List X} {i : Nat} (h1 : i < l.length) (h2 : i < m.length) : sameXs (l.drop i) (m.drop i) = (sameX l[i] m[i] && sameXs (l.drop (i + 1)) (m.drop (i + 1))) := by
 rw [List.drop_eq_getElem_cons h1, List.drop_eq_getElem_cons h2, sameXs]
theorem eqF_l {l m : List X} (hlm : l.length = m.length) (hl : l.length ≤ 1000000) {H : Heap} (hq : ∀ x ∈ l, ∀ y G, E n_regex_same [encX x, encX y] G = some (.ret (.bool (sameX x y)), G)) : ∀ (n i : Nat), l.length - i = n → i ≤ l.length → ∀ G, Up H G →
  slices_EqualFunc_api_Re_api_Re_api_Re_api_Re_l1 H.length (.vs (encXs m)) (.fn n_regex_same []) (.vs (encXs l)) (.int .i64 (l.length : Int)) (.int .i64 (i : Int)) G = some (.ret (.bool (sameXs (l.drop i) (m.drop i))), H) := by
 intro n
 induction n with
 | zero =>
  intro i hn hi G hU
  have h' : ¬ (i : Int) < (l.length : Int) := by omega
  rw [List.drop_of_length_le (show l.length ≤ i by omega), List.drop_of_length_le (show m.length ≤ i by omega), slices_EqualFunc_api_Re_api_Re_api_Re_api_Re_l1_eq]
  simp (maxDischargeDepth := 9) only [Qah, Qag, Qbc, Qep, Qdx, Qef, Qgc, Qan, Qgo, Qgn, Qgs, Qgy, Qhh, Qhf, Qcj, Qcn, Qfv, decide_false, List.length_cons, List.length_nil, Nat.zero_add, Bool.and_true, List.append_nil, Nat.reduceAdd, oLoad_ptr, oStore_ptr, Nat.le_refl, and_true, and_self, h', sameXs, hU.trunc]
 | succ n ih =>
  intro i hn hi G hU
  have h : i < l.length := by omega
  have h2 : i < m.length := by omega
  have h' : (i : Int) < (l.length : Int) := by omega
  have w1 := w_add (a := i) (by omega)
  have q := hq l[i] (List.getElem_mem h) m[i]
  have i1 := idxX h .i64
  have i2 := idxX h2 .i64
  have hU2 : Up H (.var (encX m[i]).cells :: .var (encX l[i]).cells :: G) := (hU.cons _).cons _
  have hT := hU2.trunc
  have k2 := ih (i + 1) (by omega) (by omega) _ hU2
  obtain ⟨k1, s1, ks1, e1⟩ : ∃ k s ks, l[i] = .mk k s ks := by cases l[i] with | mk k s ks => exact ⟨k, s, ks, rfl⟩
  obtain ⟨k3, s3, ks3, e3⟩ : ∃ k s ks, m[i] = .mk k s ks := by cases m[i] with | mk k s ks => exact ⟨k, s, ks, rfl⟩
  rw [same_drop h h2, slices_EqualFunc_api_Re_api_Re_api_Re_api_Re_l1_eq]
  cases hb : sameX l[i] m[i] with
  | false =>
   rw [hb] at q
   rw [e1] at q i1 hT
   rw [e3] at q i2 hT
   rw [encX_mk] at q i1 hT i2
   rw [encX_mk] at q hT
   simp only [Qan] at hT
   simp (maxDischargeDepth := 9) only [Qah, Qag, Qab, Qbd, Qep, Qfu, Qdx, Qef, Qcz, Qfh, Qgc, Qan, Qgo, Qgn, Qgs, Qgy, Qhc, Qdi, Qdt, Qde, Qdd, Qdc, Qhh, Qhf, Qck, Qcj, Qcn, Qfv, Qhi, decide_true, Bool.not_false, if_true, List.drop_zero, List.drop_succ_cons, List.length_cons, List.length_nil, Nat.zero_add, Bool.and_true, Bool.false_and, List.append_nil, Nat.reduceAdd, oLoad_ptr, oStore_ptr, List.drop_nil, le_s, Nat.le_refl, Nat.lt_add_one, Nat.zero_le, or_true, and_true, and_self, Nat.max_self, List.take_zero, List.take_succ_cons, h', i1, i2, q, hT]
  | true =>
   rw [hb] at q
   rw [e1] at q i1 k2
   rw [e3] at q i2 k2
   rw [encX_mk] at q i1 k2 i2
   rw [encX_mk] at q k2
   simp only [Qan] at k2
   simp (maxDischargeDepth := 9) only [Qah, Qag, Qab, Qbd, Qbc, Qep, Qfu, Qdx, Qef, Qcz, Qfh, Qgc, Qan, Qgo, Qgn, Qgs, Qgy, Qhc, Qdi, Qdt, Qde, Qdd, Qdc, Qhh, Qhf, Qck, Qcj, Qcn, Qfv, Qhi, decide_true, Bool.not_true, if_true, List.drop_zero, List.drop_succ_cons, List.length_cons, List.length_nil, Nat.zero_add, Bool.and_true, Bool.true_and, List.append_nil, Nat.reduceAdd, oLoad_ptr, oStore_ptr, List.drop_nil, le_s, Nat.le_refl, Nat.lt_add_one, Nat.zero_le, or_true, and_true, and_self, Nat.max_self, List.take_zero, List.take_succ_cons, h', i1, i2, q, w1, k2]
theorem p7_EqualF {l m : List X} (hl : l.length ≤ 1000000) (hq : ∀ x ∈ l, ∀ y G, E n_regex_same [encX x, encX y] G = some (.ret (.bool (sameX x y)), G)) (H : Heap) : E n_slices_EqualFunc_api_Re_api_Re_api_Re_api_Re [.vs (encXs l), .vs (encXs m), .fn n_regex_same []] H = some (.ret (.bool (sameXs l m)), H) := by
 rw [slices_EqualFunc_api_Re_api_Re_api_Re_api_Re_E, slices_EqualFunc_api_Re_api_Re_api_Re_api_Re_eq]
 by_cases h : l.length = m.length
 ·have h' : (l.length : Int) = (m.length : Int) := by omega
  have k := eqF_l h hl hq (H := H) l.length 0 rfl (Nat.zero_le _) H (Up.refl H)
  rw [h'] at k
  simp only [Qam] at k
  simp (maxDischargeDepth := 9) only [Qah, Qbc, Qfc, Qeh, Qcx, Qgc, Qbp, decide_true, Bool.not_true, List.drop_zero, h', k]
 ·have h' : ¬ (l.length : Int) = (m.length : Int) := by omega
  simp (maxDischargeDepth := 9) only [Qah, Qbd, Qfc, Qeh, Qcx, Qgc, Qbp, decide_false, Bool.not_false, h', sameXs_len h]
theorem p7_same : ∀ (n : Nat) (x y : X), x.size ≤ n → n ≤ 1000000 → ∀ H, E n_regex_same [encX x, encX y] H = some (.ret (.bool (sameX x y)), H)
 | 0, x, _, h, _, _ => by have := size_pos x; omega
 | n + 1, .mk k s l, .mk k' s' m, h, hn, H => by
  have hsz : sizes l ≤ n := by simp only [X.size] at h; omega
  have hll := len_sizes l
  have hq : ∀ x ∈ l, ∀ y G, E n_regex_same [encX x, encX y] G = some (.ret (.bool (sameX x y)), G) := fun x hx y G => p7_same n x y (Nat.le_trans (size_mem hx) hsz) (by omega) G
  have ef := fun G => p7_EqualF (m := m) (show l.length ≤ 1000000 by omega) hq G
  rw [regex_same_E, regex_same_eq]
  have ns := eqS s s'
  simp only [X7.sameX]
  by_cases h1 : k = k'
  ·subst h1
   by_cases h2 : s = s'
   ·subst h2
    rw [decide_eq_true rfl] at ns
    rw [encX_mk, encX_mk]
    simp (maxDischargeDepth := 9) only [Qah, Qag, Qab, Qci, Qfr, Qet, Qeb, Qcx, Qcz, Qhj, Qgc, Qan, Qgo, Qgn, Qgs, Qhc, Qcr, Qck, Qcj, Qfv, Qhi, decide_true, List.drop_zero, List.drop_succ_cons, List.length_cons, List.length_nil, Nat.add_zero, Nat.zero_add, Bool.and_true, Bool.true_and, Nat.reduceAdd, oLoad_ptr, le_s, Nat.le_refl, Nat.lt_add_one, List.take_zero, List.take_succ_cons, ns, ef]
   ·rw [decide_eq_false h2] at ns
    rw [encX_mk, encX_mk]
    simp (maxDischargeDepth := 9) only [Qah, Qag, Qab, Qci, Qcf, Qfr, Qfq, Qet, Qeb, Qcx, Qcz, Qhj, Qgc, Qan, Qgo, Qgn, Qgs, Qhc, Qcr, Qck, Qcj, Qfv, Qhi, decide_true, decide_false, List.drop_zero, List.drop_succ_cons, List.length_cons, List.length_nil, Nat.add_zero, Nat.zero_add, Bool.and_true, Bool.false_and, Bool.and_false, Nat.reduceAdd, oLoad_ptr, le_s, Nat.le_refl, Nat.lt_add_one, List.take_zero, List.take_succ_cons, ns, h2]
  ·rw [encX_mk, encX_mk]
   simp (maxDischargeDepth := 9) only [Qah, Qag, Qab, Qcf, Qfq, Qet, Qeb, Qcx, Qcz, Qhj, Qgc, Qan, Qgo, Qgn, Qgs, Qhc, Qcr, Qck, Qcj, Qfv, decide_false, List.drop_zero, List.length_cons, Nat.add_zero, Nat.zero_add, Bool.and_true, Bool.false_and, oLoad_ptr, le_s, Nat.le_refl, Nat.lt_add_one, h1]
theorem r7_Star (x : X) (H : Heap) : E n_ref07_Star [encX x] H = some (.ret (encX (starX x)), H) := by
 rw [ref07_Star_E, ref07_Star_eq]
 cases x with
 | mk k s ks =>
  rw [starX_mk]
  have b1 := bXk 1
  by_cases h0 : k = 0
  ·subst h0
   rw [encX_mk]
   simp (maxDischargeDepth := 9) only [Qah, Qag, Qbd, Qet, Qeb, Qcx, Qcz, Qhj, Qan, Qgo, Qgn, Qgs, Qgy, Qhc, Qdi, Qdo, Qdt, Qde, Qdd, Qdc, Qhh, Qhf, Qcr, Qck, Qcj, Qcn, Qfv, Qhi, Qgb, Qga, Qbe, Qbx, Qce, Qca, Qbt, Qdb, Qda, decide_true, if_true, List.drop_zero, List.drop_succ_cons, List.length_cons, List.length_nil, Nat.add_zero, Nat.zero_add, Option.bind_some, Option.map_some, Bool.and_true, List.append_nil, Nat.reduceAdd, oLoad_ptr, oStore_ptr, List.drop_nil, le_s, Nat.le_refl, Nat.lt_add_one, Nat.zero_le, or_true, true_or, and_true, and_self, Nat.max_self, List.take_zero, List.take_succ_cons, b1]
   rfl
  ·by_cases h1 : k = 1
   ·subst h1
    rw [encX_mk]
    simp (maxDischargeDepth := 9) only [Qah, Qag, Qbd, Qbc, Qet, Qeb, Qcx, Qcz, Qhj, Qan, Qgo, Qgn, Qgs, Qgy, Qhc, Qdi, Qdo, Qdt, Qde, Qdd, Qdc, Qhh, Qhf, Qcr, Qck, Qcj, Qcn, Qfv, Qhi, Qgb, Qga, Qbe, Qbx, Qce, Qca, Qbt, Qdb, Qda, decide_true, decide_false, if_true, List.drop_zero, List.drop_succ_cons, List.length_cons, List.length_nil, Nat.add_zero, Nat.zero_add, Option.bind_some, Option.map_some, Bool.and_true, List.append_nil, Nat.reduceAdd, oLoad_ptr, oStore_ptr, List.drop_nil, le_s, Nat.le_refl, Nat.lt_add_one, Nat.zero_le, or_true, true_or, and_true, and_self, Nat.max_self, List.take_zero, List.take_succ_cons, h0, b1]
    rfl
   ·by_cases h5 : k = 5
    ·subst h5
     rw [if_neg (by decide), if_pos rfl]
     have q := Qbl H.length (.mk 5 s ks)
     rw [encX_mk] at q ⊢
     simp (maxDischargeDepth := 9) only [Qdi, Qdt, Qde, Qdd, Qdc, Qgb, Qga, Qbe, Qbx, Qce, Qbt, Qdb, Qda, if_true, Option.bind_some, Option.map_some, Nat.reduceAdd, Nat.zero_le, Nat.max_self] at q
     simp (maxDischargeDepth := 9) only [Qah, Qag, Qbd, Qbc, Qet, Qeb, Qcx, Qcz, Qhj, Qan, Qgo, Qgn, Qgs, Qgy, Qhc, Qdi, Qdt, Qde, Qdd, Qdc, Qhh, Qhf, Qcr, Qck, Qcj, Qcn, Qfv, Qhi, Qem, Qgb, Qga, Qbe, Qbx, Qce, Qbt, Qdb, Qda, decide_true, decide_false, if_true, List.drop_zero, List.drop_succ_cons, List.length_cons, List.length_nil, Nat.add_zero, Nat.zero_add, Option.bind_some, Option.map_some, Bool.and_true, List.append_nil, Nat.reduceAdd, oLoad_ptr, oStore_ptr, List.drop_nil, le_s, Nat.le_refl, Nat.lt_add_one, Nat.zero_le, true_or, and_true, and_self, Nat.max_self, List.take_zero, List.take_succ_cons, h0, h1, q]
    ·rw [if_neg (by simp [h0, h1]), if_neg h5]
     have lt := Qfe (.agg [.int .i64 0, .int .u64 0, .int .u64 0, .int .u64 0, .int .u64 0, .vs []]) (.mk k s ks)
     have b := bXv 5 [encX (.mk k s ks)]
     have q := Qbl H.length (.mk 5 S4.zero [.mk k s ks])
     have e5 : encX (.mk 5 S4.zero [.mk k s ks]) = .agg [.int .i64 5, .int .u64 0, .int .u64 0, .int .u64 0, .int .u64 0, .vs [encX (.mk k s ks)]] := rfl
     rw [e5] at q ⊢
     rw [encX_mk] at lt b q ⊢
     simp (maxDischargeDepth := 9) only [Qdi, Qdt, Qde, Qdd, Qdc, Qgb, Qga, Qbe, Qbx, Qce, Qbt, Qdb, Qda, if_true, Option.bind_some, Option.map_some, Nat.reduceAdd, Nat.zero_le, Nat.max_self] at q
     simp (maxDischargeDepth := 9) only [Qah, Qag, Qbc, Qet, Qeb, Qcx, Qcz, Qhj, Qan, Qgo, Qgn, Qgs, Qgy, Qhc, Qdi, Qdt, Qde, Qdd, Qdc, Qhh, Qhf, Qcr, Qck, Qcj, Qcn, Qfv, Qhi, Qem, Qgb, Qga, Qbe, Qbx, Qce, Qbt, Qdb, Qda, decide_false, if_true, List.drop_zero, List.drop_succ_cons, List.length_cons, List.length_nil, Nat.add_zero, Nat.zero_add, Option.bind_some, Option.map_some, Bool.and_true, List.append_nil, Nat.reduceAdd, oLoad_ptr, oStore_ptr, List.drop_nil, le_s, Nat.le_refl, Nat.lt_add_one, Nat.zero_le, true_or, and_true, and_self, Nat.max_self, List.take_zero, List.take_succ_cons, h0, h1, h5]
     rw [ref07_Star_j1_eq]
     simp (maxDischargeDepth := 9) only [Qah, Qag, Qcx, Qcz, Qan, Qgo, Qgn, Qgs, Qhc, Qdi, Qdt, Qde, Qdd, Qdc, Qhh, Qhf, Qcr, Qck, Qcj, Qcn, Qhi, Qgb, Qga, Qbe, Qbx, Qce, Qbt, Qdb, Qda, if_true, List.drop_zero, List.drop_succ_cons, List.length_cons, List.length_nil, Nat.zero_add, Option.bind_some, Option.map_some, Bool.and_true, List.append_nil, Nat.reduceAdd, oLoad_ptr, oStore_ptr, List.drop_nil, le_s, Nat.le_refl, Nat.lt_add_one, Nat.zero_le, true_or, and_true, and_self, Nat.max_self, List.take_zero, List.take_succ_cons, lt, b, q]
theorem p7_Star (x : X) (H : Heap) : E n_regex_Star [encX x] H = some (.ret (encX (starX x)), H) := by
 rw [regex_Star_E, regex_Star_eq]
 cases x with
 | mk k s ks =>
  rw [starX_mk]
  have b1 := bXk 1
  by_cases h0 : k = 0
  ·subst h0
   rw [encX_mk]
   simp (maxDischargeDepth := 9) only [Qah, Qag, Qbd, Qet, Qeb, Qcx, Qcz, Qhj, Qan, Qgo, Qgn, Qgs, Qgy, Qhc, Qdi, Qdo, Qdt, Qde, Qdd, Qdc, Qhh, Qhf, Qcr, Qck, Qcj, Qcn, Qfv, Qhi, Qgb, Qga, Qbe, Qbx, Qce, Qca, Qbt, Qdb, Qda, decide_true, if_true, List.drop_zero, List.drop_succ_cons, List.length_cons, List.length_nil, Nat.add_zero, Nat.zero_add, Option.bind_some, Option.map_some, Bool.and_true, List.append_nil, Nat.reduceAdd, oLoad_ptr, oStore_ptr, List.drop_nil, le_s, Nat.le_refl, Nat.lt_add_one, Nat.zero_le, or_true, true_or, and_true, and_self, Nat.max_self, List.take_zero, List.take_succ_cons, b1]
   rfl
  ·by_cases h1 : k = 1
   ·subst h1
    rw [encX_mk]
    simp (maxDischargeDepth := 9) only [Qah, Qag, Qbd, Qbc, Qet, Qeb, Qcx, Qcz, Qhj, Qan, Qgo, Qgn, Qgs, Qgy, Qhc, Qdi, Qdo, Qdt, Qde, Qdd, Qdc, Qhh, Qhf, Qcr, Qck, Qcj, Qcn, Qfv, Qhi, Qgb, Qga, Qbe, Qbx, Qce, Qca, Qbt, Qdb, Qda, decide_true, decide_false, if_true, List.drop_zero, List.drop_succ_cons, List.length_cons, List.length_nil, Nat.add_zero, Nat.zero_add, Option.bind_some, Option.map_some, Bool.and_true, List.append_nil, Nat.reduceAdd, oLoad_ptr, oStore_ptr, List.drop_nil, le_s, Nat.le_refl, Nat.lt_add_one, Nat.zero_le, or_true, true_or, and_true, and_self, Nat.max_self, List.take_zero, List.take_succ_cons, h0, b1]
    rfl
   ·by_cases h5 : k = 5
    ·subst h5
     rw [if_neg (by decide), if_pos rfl]
     have q := Qbl H.length (.mk 5 s ks)
     rw [encX_mk] at q ⊢
     simp (maxDischargeDepth := 9) only [Qdi, Qdt, Qde, Qdd, Qdc, Qgb, Qga, Qbe, Qbx, Qce, Qbt, Qdb, Qda, if_true, Option.bind_some, Option.map_some, Nat.reduceAdd, Nat.zero_le, Nat.max_self] at q
     simp (maxDischargeDepth := 9) only [Qah, Qag, Qbd, Qbc, Qet, Qeb, Qcx, Qcz, Qhj, Qan, Qgo, Qgn, Qgs, Qgy, Qhc, Qdi, Qdt, Qde, Qdd, Qdc, Qhh, Qhf, Qcr, Qck, Qcj, Qcn, Qfv, Qhi, Qem, Qgb, Qga, Qbe, Qbx, Qce, Qbt, Qdb, Qda, decide_true, decide_false, if_true, List.drop_zero, List.drop_succ_cons, List.length_cons, List.length_nil, Nat.add_zero, Nat.zero_add, Option.bind_some, Option.map_some, Bool.and_true, List.append_nil, Nat.reduceAdd, oLoad_ptr, oStore_ptr, List.drop_nil, le_s, Nat.le_refl, Nat.lt_add_one, Nat.zero_le, true_or, and_true, and_self, Nat.max_self, List.take_zero, List.take_succ_cons, h0, h1, q]
    ·rw [if_neg (by simp [h0, h1]), if_neg h5]
     have lt := Qfe (.agg [.int .i64 0, .int .u64 0, .int .u64 0, .int .u64 0, .int .u64 0, .vs []]) (.mk k s ks)
     have b := bXv 5 [encX (.mk k s ks)]
     have q := Qbl H.length (.mk 5 S4.zero [.mk k s ks])
     have e5 : encX (.mk 5 S4.zero [.mk k s ks]) = .agg [.int .i64 5, .int .u64 0, .int .u64 0, .int .u64 0, .int .u64 0, .vs [encX (.mk k s ks)]] := rfl
     rw [e5] at q ⊢
     rw [encX_mk] at lt b q ⊢
     simp (maxDischargeDepth := 9) only [Qdi, Qdt, Qde, Qdd, Qdc, Qgb, Qga, Qbe, Qbx, Qce, Qbt, Qdb, Qda, if_true, Option.bind_some, Option.map_some, Nat.reduceAdd, Nat.zero_le, Nat.max_self] at q
     simp (maxDischargeDepth := 9) only [Qah, Qag, Qbc, Qet, Qeb, Qcx, Qcz, Qhj, Qan, Qgo, Qgn, Qgs, Qgy, Qhc, Qdi, Qdt, Qde, Qdd, Qdc, Qhh, Qhf, Qcr, Qck, Qcj, Qcn, Qfv, Qhi, Qem, Qgb, Qga, Qbe, Qbx, Qce, Qbt, Qdb, Qda, decide_false, if_true, List.drop_zero, List.drop_succ_cons, List.length_cons, List.length_nil, Nat.add_zero, Nat.zero_add, Option.bind_some, Option.map_some, Bool.and_true, List.append_nil, Nat.reduceAdd, oLoad_ptr, oStore_ptr, List.drop_nil, le_s, Nat.le_refl, Nat.lt_add_one, Nat.zero_le, true_or, and_true, and_self, Nat.max_self, List.take_zero, List.take_succ_cons, h0, h1, h5]
     rw [regex_Star_j1_eq]
     simp (maxDischargeDepth := 9) only [Qah, Qag, Qcx, Qcz, Qan, Qgo, Qgn, Qgs, Qhc, Qdi, Qdt, Qde, Qdd, Qdc, Qhh, Qhf, Qcr, Qck, Qcj, Qcn, Qhi, Qgb, Qga, Qbe, Qbx, Qce, Qbt, Qdb, Qda, if_true, List.drop_zero, List.drop_succ_cons, List.length_cons, List.length_nil, Nat.zero_add, Option.bind_some, Option.map_some, Bool.and_true, List.append_nil, Nat.reduceAdd, oLoad_ptr, oStore_ptr, List.drop_nil, le_s, Nat.le_refl, Nat.lt_add_one, Nat.zero_le, true_or, and_true, and_self, Nat.max_self, List.take_zero, List.take_succ_cons, lt, b, q]
end Go.Proofs.YtjnkigaiogjfcaaDoor
end

section
/- Is one as the calls make it: the document's. -/
namespace Go.Proofs.YtjnkigaiogjfcaaDoor
open Go Go.Ev Go.X7 Go.Srt
set_option linter.unusedVariables false
set_option linter.unusedSimpArgs false
set_option maxRecDepth 20000

end Go.Proofs.YtjnkigaiogjfcaaDoor
end

section
/- Is one as the calls make it: the program's. -/
namespace Go.Proofs.YtjnkigaiogjfcaaDoor
open Go Go.Ev Go.X7 Go.Srt
set_option linter.unusedVariables false
set_option linter.unusedSimpArgs false
set_option maxRecDepth 20000

set_option maxHeartbeats 4000000 in
theorem p7_own {k : Int} {s : S4} {ks : List X} (hok : (X.mk k s ks).ok) (hn : sizes ks ≤ 900000) {H : Heap} (cf : ∀ G, E n_slices_ContainsFunc_api_Re_api_Re [.vs (encXs ks), .fn n_regex_Right_1 []] G = some (.ret (.bool false), G)) :
  regex_Right H.length (encX (.mk k s ks)) H = some (.ret (.bool (ownR (.mk k s ks))), H) := by
 have hoks := oks_iff.1 hok.2
 have ns := neS s S4.zero
 rw [regex_Right_eq]
 rw [ownR_mk, encX_mk]
 by_cases k2 : k = 2
 ·subst k2
  have n0 : ¬ (2 : Int) = 0 := by decide
  have n1 : ¬ (2 : Int) = 1 := by decide
  rw [if_neg (by simp), if_neg (by decide), if_pos rfl]
  cases hz : decide (s = S4.zero) <;> rw [hz] at ns <;> cases hl : decide ((ks.length : Int) = 0) <;>
   (have hl2 : decide (ks.length = 0) = decide ((ks.length : Int) = 0) := by (rw [Bool.eq_iff_iff]; simp)) <;> rw [hl] at hl2 <;>
   simp (maxDischargeDepth := 9) only [Qah, Qag, Qab, Qbd, Qbc, Qci, Qcf, Qfm, Qfr, Qfq, Qet, Qfc, Qeb, Qeh, Qed, Qcx, Qcz, Qhj, Qgc, Qan, Qgo, Qgn, Qgs, Qhc, Qcr, Qcj, Qfv, Qhi, Qbp, decide_true, decide_false, Bool.not_true, Bool.not_false, List.drop_zero, List.drop_succ_cons, List.length_cons, List.length_nil, Nat.add_zero, Nat.zero_add, Bool.and_true, Bool.and_false, Nat.reduceAdd, oLoad_ptr, le_s, Nat.le_refl, List.take_zero, List.take_succ_cons, n0, n1, hl, hl2, cf, bS0, ns]
 ·by_cases hz : s = S4.zero
  ·rw [decide_eq_true hz] at ns
   have h01 : ¬ (k ≠ 2 ∧ s ≠ S4.zero) := fun h => h.2 hz
   have hl2 : decide (ks.length = 0) = decide ((ks.length : Int) = 0) := by rw [Bool.eq_iff_iff]; simp
   have hl1 : decide (ks.length = 1) = decide ((ks.length : Int) = 1) := by rw [Bool.eq_iff_iff]; simp; omega
   have hl3 : decide (1 < ks.length) = decide ((1 : Int) < (ks.length : Int)) := by rw [Bool.eq_iff_iff]; simp; omega
   rw [if_neg h01]
   by_cases k0 : k = 0
   ·rw [if_pos (.inl k0)]
    subst k0
    simp (maxDischargeDepth := 9) only [Qah, Qag, Qab, Qbd, Qbc, Qci, Qfm, Qfr, Qfq, Qet, Qfc, Qeb, Qeh, Qed, Qcx, Qcz, Qhj, Qgc, Qan, Qgo, Qgn, Qgs, Qhc, Qcr, Qcj, Qfv, Qhi, Qbp, decide_true, decide_false, Bool.not_true, Bool.not_false, List.drop_zero, List.drop_succ_cons, List.length_cons, List.length_nil, Nat.add_zero, Nat.zero_add, Bool.and_true, Nat.reduceAdd, oLoad_ptr, le_s, Nat.le_refl, List.take_zero, List.take_succ_cons, k2, cf, bS0, ns, hl2]
   ·by_cases k1 : k = 1
    ·rw [if_pos (.inr k1)]
     subst k1
     simp (maxDischargeDepth := 9) only [Qah, Qag, Qab, Qbd, Qbc, Qci, Qfm, Qfr, Qfq, Qet, Qfc, Qeb, Qeh, Qed, Qcx, Qcz, Qhj, Qgc, Qan, Qgo, Qgn, Qgs, Qhc, Qcr, Qcj, Qfv, Qhi, Qbp, decide_true, decide_false, Bool.not_true, Bool.not_false, List.drop_zero, List.drop_succ_cons, List.length_cons, List.length_nil, Nat.add_zero, Nat.zero_add, Bool.and_true, Nat.reduceAdd, oLoad_ptr, le_s, Nat.le_refl, List.take_zero, List.take_succ_cons, k2, k0, cf, bS0, ns, hl2]
    ·rw [if_neg (by simp [k0, k1]), if_neg k2]
     by_cases k5 : k = 5
     ·rw [if_pos k5]
      subst k5
      by_cases h1 : ks.length = 1
      ·obtain ⟨y, rfl⟩ := List.length_eq_one_iff.1 h1
       have st := fun G => p7_Star y G
       have hys : y.size ≤ 900000 := by simp only [sizes] at hn; omega
       have sm := fun G => p7_same 1000000 (starX y) (.mk 5 s [y]) (by have := starX_size y; omega) (Nat.le_refl _) G
       have i0 := idxX (ks := [y]) (j := 0) (by simp) .i64
       simp only [Qam, List.getElem_cons_zero] at i0
       rw [encX_mk] at sm
       simp (maxDischargeDepth := 9) only [Qah, Qag, Qab, Qbd, Qbc, Qci, Qcf, Qhd, Qgm, Qfm, Qfr, Qfq, Qet, Qfc, Qeb, Qeh, Qed, Qcx, Qcz, Qfh, Qhj, Qgc, Qan, Qgo, Qgn, Qgs, Qhc, Qam, Qcr, Qcj, Qfv, Qhi, Qbp, Qbg, Qbf, Qbo, decide_true, decide_false, Bool.not_true, Bool.not_false, List.drop_zero, List.drop_succ_cons, List.length_cons, List.length_nil, Nat.add_zero, Nat.zero_add, Bool.and_true, Bool.true_and, Nat.reduceAdd, oLoad_ptr, le_s, Nat.le_refl, List.take_zero, List.take_succ_cons, k2, k0, k1, cf, bS0, ns, List.headD_cons, i0, takeX, st, sm, Qam, Int.lt_irrefl]
      ·have e : decide ((ks.length : Int) = 1) = false := by rw [decide_eq_false_iff_not]; omega
       simp (maxDischargeDepth := 9) only [Qah, Qag, Qab, Qbd, Qbc, Qci, Qcf, Qhd, Qgm, Qfm, Qfr, Qfq, Qet, Qfc, Qeb, Qeh, Qed, Qcx, Qcz, Qhj, Qgc, Qan, Qgo, Qgn, Qgs, Qhc, Qcr, Qcj, Qfv, Qhi, Qbp, decide_true, decide_false, Bool.not_true, Bool.not_false, List.drop_zero, List.drop_succ_cons, List.length_cons, List.length_nil, Nat.add_zero, Nat.zero_add, Bool.and_true, Bool.false_and, Nat.reduceAdd, oLoad_ptr, le_s, Nat.le_refl, List.take_zero, List.take_succ_cons, k2, k0, k1, cf, bS0, ns, hl1, e]
     ·rw [if_neg k5]
      by_cases k3 : k = 3
      ·rw [if_pos k3]
       subst k3
       by_cases h1 : 1 < ks.length
       ·have h1' : (1 : Int) < (ks.length : Int) := by omega
        have ct := fun G => p7_Cat (H := G) (Sl.vs ks) (by omega)
        have sm := fun G => p7_same 1000000 (catX ks) (.mk 3 s ks) (by have := catX_size ks; omega) (Nat.le_refl _) G
        rw [encX_mk] at sm
        simp (maxDischargeDepth := 9) only [Qah, Qag, Qab, Qbd, Qbc, Qci, Qhd, Qgm, Qfm, Qfr, Qfq, Qet, Qfc, Qeb, Qeh, Qed, Qcx, Qcz, Qhj, Qgc, Qan, Qgo, Qgn, Qgs, Qhc, Qcr, Qcj, Qfv, Qhi, Qbp, decide_true, decide_false, Bool.not_true, Bool.not_false, List.drop_zero, List.drop_succ_cons, List.length_cons, List.length_nil, Nat.add_zero, Nat.zero_add, Bool.and_true, Bool.true_and, Nat.reduceAdd, oLoad_ptr, le_s, Nat.le_refl, List.take_zero, List.take_succ_cons, k2, k0, k1, k5, cf, bS0, ns, hl3, h1', ct, sm]
       ·have e : decide ((1 : Int) < (ks.length : Int)) = false := by rw [decide_eq_false_iff_not]; omega
        simp (maxDischargeDepth := 9) only [Qah, Qag, Qab, Qbd, Qbc, Qci, Qcf, Qhd, Qgm, Qfm, Qfr, Qfq, Qet, Qfc, Qeb, Qeh, Qed, Qcx, Qcz, Qhj, Qgc, Qan, Qgo, Qgn, Qgs, Qhc, Qcr, Qcj, Qfv, Qhi, Qbp, decide_true, decide_false, Bool.not_true, Bool.not_false, List.drop_zero, List.drop_succ_cons, List.length_cons, List.length_nil, Nat.add_zero, Nat.zero_add, Bool.and_true, Bool.false_and, Nat.reduceAdd, oLoad_ptr, le_s, Nat.le_refl, List.take_zero, List.take_succ_cons, k2, k0, k1, k5, cf, bS0, ns, hl3, e]
      ·rw [if_neg k3]
       by_cases k4 : k = 4
       ·rw [if_pos k4]
        subst k4
        by_cases h1 : 1 < ks.length
        ·have h1' : (1 : Int) < (ks.length : Int) := by omega
         have ct := fun G => p7_Either (H := G) (Sl.vs ks) (by omega) hoks
         have sm := fun G => p7_same 1000000 (eitherX ks) (.mk 4 s ks) (by have := eitherX_size ks; omega) (Nat.le_refl _) G
         rw [encX_mk] at sm
         simp (maxDischargeDepth := 9) only [Qah, Qag, Qab, Qbd, Qbc, Qci, Qhd, Qgm, Qfm, Qfr, Qfq, Qet, Qfc, Qeb, Qeh, Qed, Qcx, Qcz, Qhj, Qgc, Qan, Qgo, Qgn, Qgs, Qhc, Qcr, Qcj, Qfv, Qhi, Qbp, decide_true, decide_false, Bool.not_true, Bool.not_false, List.drop_zero, List.drop_succ_cons, List.length_cons, List.length_nil, Nat.add_zero, Nat.zero_add, Bool.and_true, Bool.true_and, Nat.reduceAdd, oLoad_ptr, le_s, Nat.le_refl, List.take_zero, List.take_succ_cons, k2, k0, k1, k5, k3, cf, bS0, ns, hl3, h1', ct, sm]
        ·have e : decide ((1 : Int) < (ks.length : Int)) = false := by rw [decide_eq_false_iff_not]; omega
         simp (maxDischargeDepth := 9) only [Qah, Qag, Qab, Qbd, Qbc, Qci, Qcf, Qhd, Qgm, Qfm, Qfr, Qfq, Qet, Qfc, Qeb, Qeh, Qed, Qcx, Qcz, Qhj, Qgc, Qan, Qgo, Qgn, Qgs, Qhc, Qcr, Qcj, Qfv, Qhi, Qbp, decide_true, decide_false, Bool.not_true, Bool.not_false, List.drop_zero, List.drop_succ_cons, List.length_cons, List.length_nil, Nat.add_zero, Nat.zero_add, Bool.and_true, Bool.false_and, Nat.reduceAdd, oLoad_ptr, le_s, Nat.le_refl, List.take_zero, List.take_succ_cons, k2, k0, k1, k5, k3, cf, bS0, ns, hl3, e]
       ·rw [if_neg k4]
        simp (maxDischargeDepth := 9) only [Qah, Qag, Qab, Qbc, Qci, Qfm, Qfr, Qfq, Qet, Qfc, Qeb, Qeh, Qed, Qcx, Qcz, Qhj, Qgc, Qan, Qgo, Qgn, Qgs, Qhc, Qcr, Qcj, Qfv, Qhi, Qbp, decide_false, Bool.not_true, Bool.not_false, List.drop_zero, List.drop_succ_cons, List.length_cons, List.length_nil, Nat.add_zero, Nat.zero_add, Bool.and_true, Nat.reduceAdd, oLoad_ptr, le_s, Nat.le_refl, List.take_zero, List.take_succ_cons, k2, k0, k1, k5, k3, k4, cf, bS0, ns]
        rw [regex_Right_j1_eq]
        simp (maxDischargeDepth := 9) only [Qcx, Qgc, Qcr, Nat.le_refl]
  ·rw [decide_eq_false hz] at ns
   have h01 : k ≠ 2 ∧ s ≠ S4.zero := ⟨k2, hz⟩
   rw [if_pos h01]
   simp (maxDischargeDepth := 9) only [Qah, Qag, Qab, Qbd, Qbc, Qci, Qfm, Qfr, Qfq, Qet, Qfc, Qeb, Qeh, Qed, Qcx, Qcz, Qhj, Qgc, Qan, Qgo, Qgn, Qgs, Qhc, Qcr, Qcj, Qfv, Qhi, Qbp, decide_false, Bool.not_false, List.drop_zero, List.drop_succ_cons, List.length_cons, List.length_nil, Nat.add_zero, Nat.zero_add, Bool.and_true, Nat.reduceAdd, oLoad_ptr, le_s, Nat.le_refl, List.take_zero, List.take_succ_cons, k2, cf, bS0, ns]
theorem any_not (l : List X) : l.any (fun x => !rightX x) = !rightXs l := by
 rw [rightXs_all]
 induction l with
 | nil => rfl
 | cons x l ih => simp [ih]
theorem p7_Right : ∀ (n : Nat) (x : X), x.size ≤ n → n ≤ 900000 → x.ok → ∀ (v : V), v.nrm = encX x → ∀ H, E n_regex_Right [v] H = some (.ret (.bool (rightX x)), H)
 | 0, x, h, _, _, _, _, _ => by have := size_pos x; omega
 | n + 1, .mk k s ks, h, hn, hok, v, hv, H => by
  have hsz : sizes ks ≤ n := by simp only [X.size] at h; omega
  have hll := len_sizes ks
  have hq : ∀ x ∈ ks, ∀ G, E n_regex_Right_1 [encX x] G = some (.ret (.bool (!rightX x)), G) := fun x hx G => by
   have q := fun G => p7_Right n x (Nat.le_trans (size_mem hx) hsz) (by omega) (oks_iff.1 hok.2 x hx) (encX x) (encX_nrm x) G
   rw [regex_Right_1_E, regex_Right_1_eq]
   simp (maxDischargeDepth := 9) only [Qah, Qag, Qab, Qfu, Qcx, Qcz, Qgc, Qcr, Qcj, Qfv, Qhi, Qbg, Qbm, Qbf, Qbo, List.drop_zero, oLoad_ptr, Nat.le_refl, takeX, q]
  have ct := fun G => p7_Contains (H := G) (Sl.vs ks) (by omega) (f := n_regex_Right_1) (cap := []) (q := fun x => !rightX x) (fun x hx => hq x hx G)
  rw [any_not] at ct
  rw [regex_Right_E, hv, rightX]
  cases hr : rightXs ks with
  | true =>
   rw [hr] at ct
   rw [p7_own hok (by omega) ct, Bool.true_and]
  | false =>
   rw [hr] at ct
   rw [regex_Right_eq, encX_mk]
   simp (maxDischargeDepth := 9) only [Qah, Qag, Qab, Qbd, Qcg, Qch, Qfm, Qfr, Qet, Qfc, Qeb, Qed, Qcx, Qcz, Qhj, Qgc, Qan, Qgo, Qgn, Qgs, Qhc, Qcr, Qcj, Qfv, Qhi, Qbp, Bool.not_false, List.drop_zero, List.drop_succ_cons, List.length_cons, List.length_nil, Nat.add_zero, Nat.zero_add, Bool.and_true, Bool.false_and, Nat.reduceAdd, oLoad_ptr, Nat.le_refl, List.take_zero, List.take_succ_cons, ct]
end Go.Proofs.YtjnkigaiogjfcaaDoor
end

