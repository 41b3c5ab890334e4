/- Tb: a part of the proof that each law of this seat answers true at every input. No condition. -/
import Derived.Test.YthcjjicplodhjaaDoorTa
set_option linter.unusedVariables false
set_option linter.unusedSimpArgs false
set_option maxRecDepth 20000
section
/- What an expression must be by itself: the teller. -/
namespace Go.Proofs.YthcjjicplodhjaaDoor
open Go Go.Ev
set_option linter.unusedVariables false
set_option linter.unusedSimpArgs false

theorem c4_odd (x : Int) (H : Heap) : E n_teller_own_1 [.int .i64 x] H = some (.ret (.bool (!Te.numC x)), H) := by
  rw [teller_own_1_E, teller_own_1_eq]
  have e : Te.numC x = (!decide (x < 0) && !decide (1114111 < x)) := by
    unfold Te.numC; rw [Bool.eq_iff_iff]; simp only [Bool.and_eq_true, Bool.not_eq_true', decide_eq_true_eq, decide_eq_false_iff_not]; omega
  rw [e]
  cases h1 : decide (x < 0) <;> cases h2 : decide (1114111 < x) <;> simp (maxDischargeDepth := 9) only [Qah, Qcl, Qcj, Qfp, Qfu, Qft, Qei, Qeg, Qda, Qgf, Bool.not_true, Bool.not_false, Bool.and_true, Bool.and_false, h1, h2]
set_option maxHeartbeats 1000000 in
theorem c4_own_1 {lo hi : Int} {t : List UInt8} {n : List Int} {ks : List Rd.Expr} {H : Heap} :
    E n_teller_own [.agg [.int .i64 1, .str t, encI n, .int .i64 lo, .int .i64 hi, .vs (encEs ks)]] H = some (.ret (.tup [.bool (Te.own1 1 t n lo hi), .int .i64 2, .int .i64 (-1)]), H) := by
  rw [teller_own_E, teller_own_eq]
  unfold Te.own1
  rw [if_pos (by omega), nilI]
  have e0 : decide ((n.length : Int) = 0) = !decide ((0 : Int) < (n.length : Int)) := by rw [Bool.eq_iff_iff, Bool.not_eq_true', decide_eq_true_eq, decide_eq_false_iff_not]; omega
  cases hT : decide (t = []) with
  | false => simp (maxDischargeDepth := 9) only [Qah, Qag, Qbe, Qbd, Qcl, Qci, Qfp, Qfu, Qft, Qew, Qee, Qeg, Qef, Qem, Qda, Qdc, Qhm, Qas, Qay, Qao, Qgr, Qgq, Qgv, Qhe, Qhb, Qhf, Qdi, Qdl, Qdr, Qdv, Qdg, Qdf, Qhk, Qhi, Qhh, Qcu, Qcn, Qcm, Qcq, Qfy, Qhl, Qgm, Qgd, Qbf, Qbx, Qca, Qcg, Qde, Qdd, Qbs, decide_true, decide_false, if_true, List.drop_zero, List.drop_succ_cons, List.length_cons, List.length_nil, Nat.add_zero, Nat.zero_add, Option.bind_some, Option.map_some, Bool.and_true, Bool.false_and, List.append_nil, List.nil_append, List.cons_append, Nat.reduceAdd, oLoad_ptr, oStore_ptr, List.drop_nil, le_s, Nat.le_refl, Nat.lt_add_one, Nat.zero_le, or_true, true_or, and_true, and_self, Nat.max_self, List.take_zero, List.take_succ_cons, teller_own_j1_eq, lenI, e0, hT, Int.reduceEq, Int.reduceLT, Int.reduceLE]
  | true =>
    cases hN : decide ((0 : Int) < (n.length : Int)) with
    | true => simp (maxDischargeDepth := 9) only [Qah, Qag, Qbe, Qbd, Qcl, Qci, Qfp, Qfu, Qft, Qew, Qee, Qeh, Qeg, Qef, Qem, Qda, Qdc, Qhm, Qas, Qay, Qao, Qgr, Qgq, Qgv, Qhe, Qhb, Qhf, Qdi, Qdl, Qdr, Qdv, Qdg, Qdf, Qhk, Qhi, Qhh, Qcu, Qcn, Qcm, Qcq, Qfy, Qhl, Qgm, Qgd, Qbf, Qbx, Qca, Qcg, Qde, Qdd, Qbs, decide_true, decide_false, Bool.not_true, if_true, List.drop_zero, List.drop_succ_cons, List.length_cons, List.length_nil, Nat.add_zero, Nat.zero_add, Option.bind_some, Option.map_some, Bool.and_true, Bool.false_and, Bool.and_false, List.append_nil, List.nil_append, List.cons_append, Nat.reduceAdd, oLoad_ptr, oStore_ptr, List.drop_nil, le_s, Nat.le_refl, Nat.lt_add_one, Nat.zero_le, or_true, true_or, and_true, and_self, Nat.max_self, List.take_zero, List.take_succ_cons, teller_own_j1_eq, lenI, e0, hT, hN, Int.reduceEq, Int.reduceLT, Int.reduceLE]
    | false =>
      cases h1 : decide (lo = 0) with
      | false => simp (maxDischargeDepth := 9) only [Qah, Qag, Qab, Qbe, Qbd, Qcl, Qci, Qfp, Qfu, Qft, Qew, Qee, Qeg, Qef, Qem, Qda, Qdc, Qhm, Qas, Qay, Qao, Qgr, Qgq, Qgv, Qhe, Qhb, Qhf, Qdi, Qdl, Qdr, Qdv, Qdg, Qdf, Qhk, Qhi, Qhh, Qcu, Qcn, Qcm, Qcq, Qfy, Qhl, Qgm, Qgd, Qbf, Qbx, Qca, Qcg, Qde, Qdd, Qbs, decide_true, decide_false, Bool.not_false, if_true, List.drop_zero, List.drop_succ_cons, List.length_cons, List.length_nil, Nat.add_zero, Nat.zero_add, Option.bind_some, Option.map_some, Bool.and_true, Bool.false_and, Bool.and_false, List.append_nil, List.nil_append, List.cons_append, Nat.reduceAdd, oLoad_ptr, oStore_ptr, List.drop_nil, le_s, Nat.le_refl, Nat.lt_add_one, Nat.zero_le, or_true, true_or, and_true, and_self, Nat.max_self, List.take_zero, List.take_succ_cons, teller_own_j1_eq, lenI, e0, hT, hN, h1, Int.reduceEq, Int.reduceLT, Int.reduceLE]
      | true =>
        cases h2 : decide (hi = 0) with
        | false => simp (maxDischargeDepth := 9) only [Qah, Qag, Qab, Qbe, Qbd, Qcl, Qci, Qfp, Qfu, Qft, Qew, Qee, Qeg, Qef, Qem, Qda, Qdc, Qhm, Qas, Qay, Qao, Qgr, Qgq, Qgv, Qhe, Qhb, Qhf, Qdi, Qdl, Qdr, Qdv, Qdg, Qdf, Qhk, Qhi, Qhh, Qcu, Qcn, Qcm, Qcq, Qfy, Qhl, Qgm, Qgd, Qbf, Qbx, Qca, Qcg, Qde, Qdd, Qbs, decide_true, decide_false, Bool.not_false, if_true, List.drop_zero, List.drop_succ_cons, List.length_cons, List.length_nil, Nat.add_zero, Nat.zero_add, Option.bind_some, Option.map_some, Bool.and_true, Bool.and_false, List.append_nil, List.nil_append, List.cons_append, Nat.reduceAdd, oLoad_ptr, oStore_ptr, List.drop_nil, le_s, Nat.le_refl, Nat.lt_add_one, Nat.zero_le, or_true, true_or, and_true, and_self, Nat.max_self, List.take_zero, List.take_succ_cons, teller_own_j1_eq, lenI, e0, hT, hN, h1, h2, Int.reduceEq, Int.reduceLT, Int.reduceLE]
        | true =>
          simp (maxDischargeDepth := 9) only [Qah, Qag, Qab, Qbe, Qbd, Qcl, Qci, Qfp, Qfu, Qft, Qew, Qee, Qeg, Qef, Qem, Qda, Qdc, Qhm, Qas, Qay, Qao, Qgr, Qgq, Qgv, Qhe, Qhb, Qhf, Qdi, Qdl, Qdr, Qdv, Qdg, Qdf, Qhk, Qhi, Qhh, Qcu, Qcn, Qcm, Qcq, Qfy, Qhl, Qgm, Qgd, Qbf, Qbx, Qca, Qcg, Qde, Qdd, Qbs, decide_true, decide_false, Bool.not_false, if_true, List.drop_zero, List.drop_succ_cons, List.length_cons, List.length_nil, Nat.add_zero, Nat.zero_add, Option.bind_some, Option.map_some, Bool.and_true, List.append_nil, List.nil_append, List.cons_append, Nat.reduceAdd, oLoad_ptr, oStore_ptr, List.drop_nil, le_s, Nat.le_refl, Nat.lt_add_one, Nat.zero_le, or_true, true_or, and_true, and_self, Nat.max_self, List.take_zero, List.take_succ_cons, teller_own_j1_eq, lenI, e0, hT, hN, h1, h2, Int.reduceEq, Int.reduceLT, Int.reduceLE]
set_option maxHeartbeats 1000000 in
theorem c4_own_2 {lo hi : Int} {t : List UInt8} {n : List Int} {ks : List Rd.Expr} {H : Heap} :
    E n_teller_own [.agg [.int .i64 2, .str t, encI n, .int .i64 lo, .int .i64 hi, .vs (encEs ks)]] H = some (.ret (.tup [.bool (Te.own1 2 t n lo hi), .int .i64 2, .int .i64 (-1)]), H) := by
  rw [teller_own_E, teller_own_eq]
  unfold Te.own1
  rw [if_pos (by omega), nilI]
  have e0 : decide ((n.length : Int) = 0) = !decide ((0 : Int) < (n.length : Int)) := by rw [Bool.eq_iff_iff, Bool.not_eq_true', decide_eq_true_eq, decide_eq_false_iff_not]; omega
  cases hT : decide (t = []) with
  | false => simp (maxDischargeDepth := 9) only [Qah, Qag, Qbe, Qbd, Qcl, Qci, Qfp, Qfu, Qft, Qew, Qee, Qeg, Qef, Qem, Qda, Qdc, Qhm, Qas, Qay, Qao, Qgr, Qgq, Qgv, Qhe, Qhb, Qhf, Qdi, Qdl, Qdr, Qdv, Qdg, Qdf, Qhk, Qhi, Qhh, Qcu, Qcn, Qcm, Qcq, Qfy, Qhl, Qgm, Qgd, Qbf, Qbx, Qca, Qcg, Qde, Qdd, Qbs, decide_true, decide_false, if_true, List.drop_zero, List.drop_succ_cons, List.length_cons, List.length_nil, Nat.add_zero, Nat.zero_add, Option.bind_some, Option.map_some, Bool.and_true, Bool.false_and, List.append_nil, List.nil_append, List.cons_append, Nat.reduceAdd, oLoad_ptr, oStore_ptr, List.drop_nil, le_s, Nat.le_refl, Nat.lt_add_one, Nat.zero_le, or_true, true_or, and_true, and_self, Nat.max_self, List.take_zero, List.take_succ_cons, teller_own_j1_eq, lenI, e0, hT, Int.reduceEq, Int.reduceLT, Int.reduceLE]
  | true =>
    cases hN : decide ((0 : Int) < (n.length : Int)) with
    | true => simp (maxDischargeDepth := 9) only [Qah, Qag, Qbe, Qbd, Qcl, Qci, Qfp, Qfu, Qft, Qew, Qee, Qeh, Qeg, Qef, Qem, Qda, Qdc, Qhm, Qas, Qay, Qao, Qgr, Qgq, Qgv, Qhe, Qhb, Qhf, Qdi, Qdl, Qdr, Qdv, Qdg, Qdf, Qhk, Qhi, Qhh, Qcu, Qcn, Qcm, Qcq, Qfy, Qhl, Qgm, Qgd, Qbf, Qbx, Qca, Qcg, Qde, Qdd, Qbs, decide_true, decide_false, Bool.not_true, if_true, List.drop_zero, List.drop_succ_cons, List.length_cons, List.length_nil, Nat.add_zero, Nat.zero_add, Option.bind_some, Option.map_some, Bool.and_true, Bool.false_and, Bool.and_false, List.append_nil, List.nil_append, List.cons_append, Nat.reduceAdd, oLoad_ptr, oStore_ptr, List.drop_nil, le_s, Nat.le_refl, Nat.lt_add_one, Nat.zero_le, or_true, true_or, and_true, and_self, Nat.max_self, List.take_zero, List.take_succ_cons, teller_own_j1_eq, lenI, e0, hT, hN, Int.reduceEq, Int.reduceLT, Int.reduceLE]
    | false =>
      cases h1 : decide (lo = 0) with
      | false => simp (maxDischargeDepth := 9) only [Qah, Qag, Qab, Qbe, Qbd, Qcl, Qci, Qfp, Qfu, Qft, Qew, Qee, Qeg, Qef, Qem, Qda, Qdc, Qhm, Qas, Qay, Qao, Qgr, Qgq, Qgv, Qhe, Qhb, Qhf, Qdi, Qdl, Qdr, Qdv, Qdg, Qdf, Qhk, Qhi, Qhh, Qcu, Qcn, Qcm, Qcq, Qfy, Qhl, Qgm, Qgd, Qbf, Qbx, Qca, Qcg, Qde, Qdd, Qbs, decide_true, decide_false, Bool.not_false, if_true, List.drop_zero, List.drop_succ_cons, List.length_cons, List.length_nil, Nat.add_zero, Nat.zero_add, Option.bind_some, Option.map_some, Bool.and_true, Bool.false_and, Bool.and_false, List.append_nil, List.nil_append, List.cons_append, Nat.reduceAdd, oLoad_ptr, oStore_ptr, List.drop_nil, le_s, Nat.le_refl, Nat.lt_add_one, Nat.zero_le, or_true, true_or, and_true, and_self, Nat.max_self, List.take_zero, List.take_succ_cons, teller_own_j1_eq, lenI, e0, hT, hN, h1, Int.reduceEq, Int.reduceLT, Int.reduceLE]
      | true =>
        cases h2 : decide (hi = 0) with
        | false => simp (maxDischargeDepth := 9) only [Qah, Qag, Qab, Qbe, Qbd, Qcl, Qci, Qfp, Qfu, Qft, Qew, Qee, Qeg, Qef, Qem, Qda, Qdc, Qhm, Qas, Qay, Qao, Qgr, Qgq, Qgv, Qhe, Qhb, Qhf, Qdi, Qdl, Qdr, Qdv, Qdg, Qdf, Qhk, Qhi, Qhh, Qcu, Qcn, Qcm, Qcq, Qfy, Qhl, Qgm, Qgd, Qbf, Qbx, Qca, Qcg, Qde, Qdd, Qbs, decide_true, decide_false, Bool.not_false, if_true, List.drop_zero, List.drop_succ_cons, List.length_cons, List.length_nil, Nat.add_zero, Nat.zero_add, Option.bind_some, Option.map_some, Bool.and_true, Bool.and_false, List.append_nil, List.nil_append, List.cons_append, Nat.reduceAdd, oLoad_ptr, oStore_ptr, List.drop_nil, le_s, Nat.le_refl, Nat.lt_add_one, Nat.zero_le, or_true, true_or, and_true, and_self, Nat.max_self, List.take_zero, List.take_succ_cons, teller_own_j1_eq, lenI, e0, hT, hN, h1, h2, Int.reduceEq, Int.reduceLT, Int.reduceLE]
        | true =>
          simp (maxDischargeDepth := 9) only [Qah, Qag, Qab, Qbe, Qbd, Qcl, Qci, Qfp, Qfu, Qft, Qew, Qee, Qeg, Qef, Qem, Qda, Qdc, Qhm, Qas, Qay, Qao, Qgr, Qgq, Qgv, Qhe, Qhb, Qhf, Qdi, Qdl, Qdr, Qdv, Qdg, Qdf, Qhk, Qhi, Qhh, Qcu, Qcn, Qcm, Qcq, Qfy, Qhl, Qgm, Qgd, Qbf, Qbx, Qca, Qcg, Qde, Qdd, Qbs, decide_true, decide_false, Bool.not_false, if_true, List.drop_zero, List.drop_succ_cons, List.length_cons, List.length_nil, Nat.add_zero, Nat.zero_add, Option.bind_some, Option.map_some, Bool.and_true, List.append_nil, List.nil_append, List.cons_append, Nat.reduceAdd, oLoad_ptr, oStore_ptr, List.drop_nil, le_s, Nat.le_refl, Nat.lt_add_one, Nat.zero_le, or_true, true_or, and_true, and_self, Nat.max_self, List.take_zero, List.take_succ_cons, teller_own_j1_eq, lenI, e0, hT, hN, h1, h2, Int.reduceEq, Int.reduceLT, Int.reduceLE]
end Go.Proofs.YthcjjicplodhjaaDoor
end

section
/- What an expression must be by itself: the teller; names and texts. -/
namespace Go.Proofs.YthcjjicplodhjaaDoor
open Go Go.Ev
set_option linter.unusedVariables false
set_option linter.unusedSimpArgs false

set_option maxHeartbeats 1000000 in
theorem c4_own_4 {lo hi : Int} {t : List UInt8} {n : List Int} {ks : List Rd.Expr} {H : Heap} (ht : t.length ≤ 9223372036854775807) :
    E n_teller_own [.agg [.int .i64 4, .str t, encI n, .int .i64 lo, .int .i64 hi, .vs (encEs ks)]] H = some (.ret (.tup [.bool (Te.own1 4 t n lo hi), .int .i64 0, .int .i64 0]), H) := by
  rw [teller_own_E, teller_own_eq]
  unfold Te.own1
  rw [if_neg (by omega), if_neg (by omega), if_pos rfl, nilI]
  have e0 : decide ((n.length : Int) = 0) = !decide ((0 : Int) < (n.length : Int)) := by rw [Bool.eq_iff_iff, Bool.not_eq_true', decide_eq_true_eq, decide_eq_false_iff_not]; omega
  cases hq : Te.name t with
  | false => simp (maxDischargeDepth := 9) only [Qah, Qag, Qab, Qbe, Qbd, Qcl, Qci, Qfp, Qfu, Qft, Qew, Qee, Qeg, Qef, Qem, Qda, Qdc, Qhm, Qas, Qbb, Qay, Qao, Qgr, Qgq, Qgv, Qhe, Qhb, Qhf, Qdi, Qdl, Qdu, Qdr, Qdv, Qdg, Qdf, Qhk, Qhi, Qhh, Qcu, Qcn, Qcm, Qcq, Qfy, Qhl, Qgm, Qgd, Qbf, Qbx, Qca, Qcg, Qde, Qdd, Qbs, decide_true, decide_false, if_true, List.drop_zero, List.drop_succ_cons, List.length_cons, List.length_nil, Nat.add_zero, Nat.zero_add, Option.bind_some, Option.map_some, Bool.and_true, Bool.and_false, List.append_nil, List.nil_append, List.cons_append, Nat.reduceAdd, oLoad_ptr, oStore_ptr, List.drop_nil, le_s, Nat.le_refl, Nat.lt_add_one, Nat.zero_le, or_true, true_or, and_true, and_self, Nat.max_self, List.take_zero, List.take_succ_cons, teller_own_j1_eq, lenI, e0, c4_Name ht, hq, Int.reduceEq, Int.reduceLT, Int.reduceLE]
  | true =>
    cases hN : decide ((0 : Int) < (n.length : Int)) with
    | true => simp (maxDischargeDepth := 9) only [Qah, Qag, Qab, Qbe, Qbd, Qcl, Qci, Qfp, Qfu, Qft, Qew, Qee, Qeh, Qeg, Qef, Qem, Qda, Qdc, Qhm, Qas, Qbb, Qay, Qao, Qgr, Qgq, Qgv, Qhe, Qhb, Qhf, Qdi, Qdl, Qdu, Qdr, Qdv, Qdg, Qdf, Qhk, Qhi, Qhh, Qcu, Qcn, Qcm, Qcq, Qfy, Qhl, Qgm, Qgd, Qbf, Qbx, Qca, Qcg, Qde, Qdd, Qbs, decide_true, decide_false, Bool.not_true, if_true, List.drop_zero, List.drop_succ_cons, List.length_cons, List.length_nil, Nat.add_zero, Nat.zero_add, Option.bind_some, Option.map_some, Bool.and_true, Bool.false_and, List.append_nil, List.nil_append, List.cons_append, Nat.reduceAdd, oLoad_ptr, oStore_ptr, List.drop_nil, le_s, Nat.le_refl, Nat.lt_add_one, Nat.zero_le, or_true, true_or, and_true, and_self, Nat.max_self, List.take_zero, List.take_succ_cons, teller_own_j1_eq, lenI, e0, c4_Name ht, hq, hN, Int.reduceEq, Int.reduceLT, Int.reduceLE]
    | false =>
      cases h1 : decide (lo = 0) with
      | false => simp (maxDischargeDepth := 9) only [Qah, Qag, Qab, Qbe, Qbd, Qcl, Qci, Qfp, Qfu, Qft, Qew, Qee, Qeg, Qef, Qem, Qda, Qdc, Qhm, Qas, Qbb, Qay, Qao, Qgr, Qgq, Qgv, Qhe, Qhb, Qhf, Qdi, Qdl, Qdu, Qdr, Qdv, Qdg, Qdf, Qhk, Qhi, Qhh, Qcu, Qcn, Qcm, Qcq, Qfy, Qhl, Qgm, Qgd, Qbf, Qbx, Qca, Qcg, Qde, Qdd, Qbs, decide_true, decide_false, Bool.not_false, if_true, List.drop_zero, List.drop_succ_cons, List.length_cons, List.length_nil, Nat.add_zero, Nat.zero_add, Option.bind_some, Option.map_some, Bool.and_true, Bool.false_and, Bool.and_false, List.append_nil, List.nil_append, List.cons_append, Nat.reduceAdd, oLoad_ptr, oStore_ptr, List.drop_nil, le_s, Nat.le_refl, Nat.lt_add_one, Nat.zero_le, or_true, true_or, and_true, and_self, Nat.max_self, List.take_zero, List.take_succ_cons, teller_own_j1_eq, lenI, e0, c4_Name ht, hq, hN, h1, Int.reduceEq, Int.reduceLT, Int.reduceLE]
      | true =>
        cases h2 : decide (hi = 0) with
        | false => simp (maxDischargeDepth := 9) only [Qah, Qag, Qab, Qbe, Qbd, Qcl, Qci, Qfp, Qfu, Qft, Qew, Qee, Qeg, Qef, Qem, Qda, Qdc, Qhm, Qas, Qbb, Qay, Qao, Qgr, Qgq, Qgv, Qhe, Qhb, Qhf, Qdi, Qdl, Qdu, Qdr, Qdv, Qdg, Qdf, Qhk, Qhi, Qhh, Qcu, Qcn, Qcm, Qcq, Qfy, Qhl, Qgm, Qgd, Qbf, Qbx, Qca, Qcg, Qde, Qdd, Qbs, decide_true, decide_false, Bool.not_false, if_true, List.drop_zero, List.drop_succ_cons, List.length_cons, List.length_nil, Nat.add_zero, Nat.zero_add, Option.bind_some, Option.map_some, Bool.and_true, Bool.and_false, List.append_nil, List.nil_append, List.cons_append, Nat.reduceAdd, oLoad_ptr, oStore_ptr, List.drop_nil, le_s, Nat.le_refl, Nat.lt_add_one, Nat.zero_le, or_true, true_or, and_true, and_self, Nat.max_self, List.take_zero, List.take_succ_cons, teller_own_j1_eq, lenI, e0, c4_Name ht, hq, hN, h1, h2, Int.reduceEq, Int.reduceLT, Int.reduceLE]
        | true =>
          simp (maxDischargeDepth := 9) only [Qah, Qag, Qab, Qbe, Qbd, Qcl, Qci, Qfp, Qfu, Qft, Qew, Qee, Qeg, Qef, Qem, Qda, Qdc, Qhm, Qas, Qbb, Qay, Qao, Qgr, Qgq, Qgv, Qhe, Qhb, Qhf, Qdi, Qdl, Qdu, Qdr, Qdv, Qdg, Qdf, Qhk, Qhi, Qhh, Qcu, Qcn, Qcm, Qcq, Qfy, Qhl, Qgm, Qgd, Qbf, Qbx, Qca, Qcg, Qde, Qdd, Qbs, decide_true, decide_false, Bool.not_false, if_true, List.drop_zero, List.drop_succ_cons, List.length_cons, List.length_nil, Nat.add_zero, Nat.zero_add, Option.bind_some, Option.map_some, Bool.and_true, List.append_nil, List.nil_append, List.cons_append, Nat.reduceAdd, oLoad_ptr, oStore_ptr, List.drop_nil, le_s, Nat.le_refl, Nat.lt_add_one, Nat.zero_le, or_true, true_or, and_true, and_self, Nat.max_self, List.take_zero, List.take_succ_cons, teller_own_j1_eq, lenI, e0, c4_Name ht, hq, hN, h1, h2, Int.reduceEq, Int.reduceLT, Int.reduceLE]
set_option maxHeartbeats 1000000 in
theorem c4_own_5 {lo hi : Int} {t : List UInt8} {n : List Int} {ks : List Rd.Expr} {H : Heap} (ht : t.length ≤ 9223372036854775807) :
    E n_teller_own [.agg [.int .i64 5, .str t, encI n, .int .i64 lo, .int .i64 hi, .vs (encEs ks)]] H = some (.ret (.tup [.bool (Te.own1 5 t n lo hi), .int .i64 0, .int .i64 0]), H) := by
  rw [teller_own_E, teller_own_eq]
  unfold Te.own1
  rw [if_neg (by omega), if_neg (by omega), if_neg (by omega), if_pos rfl, nilI]
  have e0 : decide ((n.length : Int) = 0) = !decide ((0 : Int) < (n.length : Int)) := by rw [Bool.eq_iff_iff, Bool.not_eq_true', decide_eq_true_eq, decide_eq_false_iff_not]; omega
  cases hq : Te.fold t with
  | false => simp (maxDischargeDepth := 9) only [Qah, Qag, Qab, Qbe, Qbd, Qcl, Qci, Qfp, Qfu, Qft, Qew, Qee, Qeg, Qef, Qem, Qda, Qdc, Qhm, Qas, Qbb, Qay, Qao, Qgr, Qgq, Qgv, Qhe, Qhb, Qhf, Qdi, Qdl, Qdu, Qdr, Qdv, Qdg, Qdf, Qhk, Qhi, Qhh, Qcu, Qcn, Qcm, Qcq, Qfy, Qhl, Qgm, Qgd, Qbf, Qbx, Qca, Qcg, Qde, Qdd, Qbs, decide_true, decide_false, if_true, List.drop_zero, List.drop_succ_cons, List.length_cons, List.length_nil, Nat.add_zero, Nat.zero_add, Option.bind_some, Option.map_some, Bool.and_true, Bool.and_false, List.append_nil, List.nil_append, List.cons_append, Nat.reduceAdd, oLoad_ptr, oStore_ptr, List.drop_nil, le_s, Nat.le_refl, Nat.lt_add_one, Nat.zero_le, or_true, true_or, and_true, and_self, Nat.max_self, List.take_zero, List.take_succ_cons, teller_own_j1_eq, lenI, e0, c4_folded ht, hq, Int.reduceEq, Int.reduceLT, Int.reduceLE]
  | true =>
    cases hN : decide ((0 : Int) < (n.length : Int)) with
    | true => simp (maxDischargeDepth := 9) only [Qah, Qag, Qab, Qbe, Qbd, Qcl, Qci, Qfp, Qfu, Qft, Qew, Qee, Qeh, Qeg, Qef, Qem, Qda, Qdc, Qhm, Qas, Qbb, Qay, Qao, Qgr, Qgq, Qgv, Qhe, Qhb, Qhf, Qdi, Qdl, Qdu, Qdr, Qdv, Qdg, Qdf, Qhk, Qhi, Qhh, Qcu, Qcn, Qcm, Qcq, Qfy, Qhl, Qgm, Qgd, Qbf, Qbx, Qca, Qcg, Qde, Qdd, Qbs, decide_true, decide_false, Bool.not_true, if_true, List.drop_zero, List.drop_succ_cons, List.length_cons, List.length_nil, Nat.add_zero, Nat.zero_add, Option.bind_some, Option.map_some, Bool.and_true, Bool.false_and, List.append_nil, List.nil_append, List.cons_append, Nat.reduceAdd, oLoad_ptr, oStore_ptr, List.drop_nil, le_s, Nat.le_refl, Nat.lt_add_one, Nat.zero_le, or_true, true_or, and_true, and_self, Nat.max_self, List.take_zero, List.take_succ_cons, teller_own_j1_eq, lenI, e0, c4_folded ht, hq, hN, Int.reduceEq, Int.reduceLT, Int.reduceLE]
    | false =>
      cases h1 : decide (lo = 0) with
      | false => simp (maxDischargeDepth := 9) only [Qah, Qag, Qab, Qbe, Qbd, Qcl, Qci, Qfp, Qfu, Qft, Qew, Qee, Qeg, Qef, Qem, Qda, Qdc, Qhm, Qas, Qbb, Qay, Qao, Qgr, Qgq, Qgv, Qhe, Qhb, Qhf, Qdi, Qdl, Qdu, Qdr, Qdv, Qdg, Qdf, Qhk, Qhi, Qhh, Qcu, Qcn, Qcm, Qcq, Qfy, Qhl, Qgm, Qgd, Qbf, Qbx, Qca, Qcg, Qde, Qdd, Qbs, decide_true, decide_false, Bool.not_false, if_true, List.drop_zero, List.drop_succ_cons, List.length_cons, List.length_nil, Nat.add_zero, Nat.zero_add, Option.bind_some, Option.map_some, Bool.and_true, Bool.false_and, Bool.and_false, List.append_nil, List.nil_append, List.cons_append, Nat.reduceAdd, oLoad_ptr, oStore_ptr, List.drop_nil, le_s, Nat.le_refl, Nat.lt_add_one, Nat.zero_le, or_true, true_or, and_true, and_self, Nat.max_self, List.take_zero, List.take_succ_cons, teller_own_j1_eq, lenI, e0, c4_folded ht, hq, hN, h1, Int.reduceEq, Int.reduceLT, Int.reduceLE]
      | true =>
        cases h2 : decide (hi = 0) with
        | false => simp (maxDischargeDepth := 9) only [Qah, Qag, Qab, Qbe, Qbd, Qcl, Qci, Qfp, Qfu, Qft, Qew, Qee, Qeg, Qef, Qem, Qda, Qdc, Qhm, Qas, Qbb, Qay, Qao, Qgr, Qgq, Qgv, Qhe, Qhb, Qhf, Qdi, Qdl, Qdu, Qdr, Qdv, Qdg, Qdf, Qhk, Qhi, Qhh, Qcu, Qcn, Qcm, Qcq, Qfy, Qhl, Qgm, Qgd, Qbf, Qbx, Qca, Qcg, Qde, Qdd, Qbs, decide_true, decide_false, Bool.not_false, if_true, List.drop_zero, List.drop_succ_cons, List.length_cons, List.length_nil, Nat.add_zero, Nat.zero_add, Option.bind_some, Option.map_some, Bool.and_true, Bool.and_false, List.append_nil, List.nil_append, List.cons_append, Nat.reduceAdd, oLoad_ptr, oStore_ptr, List.drop_nil, le_s, Nat.le_refl, Nat.lt_add_one, Nat.zero_le, or_true, true_or, and_true, and_self, Nat.max_self, List.take_zero, List.take_succ_cons, teller_own_j1_eq, lenI, e0, c4_folded ht, hq, hN, h1, h2, Int.reduceEq, Int.reduceLT, Int.reduceLE]
        | true =>
          simp (maxDischargeDepth := 9) only [Qah, Qag, Qab, Qbe, Qbd, Qcl, Qci, Qfp, Qfu, Qft, Qew, Qee, Qeg, Qef, Qem, Qda, Qdc, Qhm, Qas, Qbb, Qay, Qao, Qgr, Qgq, Qgv, Qhe, Qhb, Qhf, Qdi, Qdl, Qdu, Qdr, Qdv, Qdg, Qdf, Qhk, Qhi, Qhh, Qcu, Qcn, Qcm, Qcq, Qfy, Qhl, Qgm, Qgd, Qbf, Qbx, Qca, Qcg, Qde, Qdd, Qbs, decide_true, decide_false, Bool.not_false, if_true, List.drop_zero, List.drop_succ_cons, List.length_cons, List.length_nil, Nat.add_zero, Nat.zero_add, Option.bind_some, Option.map_some, Bool.and_true, List.append_nil, List.nil_append, List.cons_append, Nat.reduceAdd, oLoad_ptr, oStore_ptr, List.drop_nil, le_s, Nat.le_refl, Nat.lt_add_one, Nat.zero_le, or_true, true_or, and_true, and_self, Nat.max_self, List.take_zero, List.take_succ_cons, teller_own_j1_eq, lenI, e0, c4_folded ht, hq, hN, h1, h2, Int.reduceEq, Int.reduceLT, Int.reduceLE]
end Go.Proofs.YthcjjicplodhjaaDoor
end

section
/- What an expression must be by itself: the teller; what stands so often; what there is not. -/
namespace Go.Proofs.YthcjjicplodhjaaDoor
open Go Go.Ev
set_option linter.unusedVariables false
set_option linter.unusedSimpArgs false

set_option maxHeartbeats 1000000 in
theorem c4_own_0 {k lo hi : Int} {t : List UInt8} {n : List Int} {ks : List Rd.Expr} {H : Heap} (k1 : ¬ k = 1) (k2 : ¬ k = 2) (k3 : ¬ k = 3) (k4 : ¬ k = 4) (k5 : ¬ k = 5) (k6 : ¬ k = 6) (k7 : ¬ k = 7) :
    E n_teller_own [.agg [.int .i64 k, .str t, encI n, .int .i64 lo, .int .i64 hi, .vs (encEs ks)]] H = some (.ret (.tup [.bool (Te.own1 k t n lo hi), .int .i64 0, .int .i64 0]), H) := by
  rw [teller_own_E, teller_own_eq]
  unfold Te.own1
  have e0 : decide ((n.length : Int) = 0) = !decide ((0 : Int) < (n.length : Int)) := by rw [Bool.eq_iff_iff, Bool.not_eq_true', decide_eq_true_eq, decide_eq_false_iff_not]; omega
  rw [if_neg (by omega), if_neg k3, if_neg k4, if_neg k5, if_neg k6, if_neg k7]
  simp (maxDischargeDepth := 9) only [Qah, Qag, Qbd, Qcl, Qci, Qfp, Qfu, Qft, Qew, Qee, Qeg, Qef, Qem, Qda, Qdc, Qhm, Qas, Qay, Qao, Qgr, Qgq, Qgv, Qhe, Qhb, Qhf, Qdi, Qdl, Qdr, Qdv, Qdg, Qdf, Qhk, Qhi, Qhh, Qcu, Qcn, Qcm, Qcq, Qfy, Qhl, Qgm, Qgd, Qbf, Qbx, Qca, Qcg, Qde, Qdd, Qbs, decide_false, if_true, List.drop_zero, List.drop_succ_cons, List.length_cons, List.length_nil, Nat.add_zero, Nat.zero_add, Option.bind_some, Option.map_some, Bool.and_true, List.append_nil, List.nil_append, List.cons_append, Nat.reduceAdd, oLoad_ptr, oStore_ptr, List.drop_nil, le_s, Nat.le_refl, Nat.lt_add_one, Nat.zero_le, or_true, true_or, and_true, and_self, Nat.max_self, List.take_zero, List.take_succ_cons, teller_own_j1_eq, lenI, k1, k2, k3, k4, k5, k6, k7, Int.reduceEq, Int.reduceLT, Int.reduceLE]
set_option maxHeartbeats 1000000 in
theorem c4_own_3 {lo hi : Int} {t : List UInt8} {n : List Int} {ks : List Rd.Expr} {H : Heap} :
    E n_teller_own [.agg [.int .i64 3, .str t, encI n, .int .i64 lo, .int .i64 hi, .vs (encEs ks)]] H = some (.ret (.tup [.bool (Te.own1 3 t n lo hi), .int .i64 1, .int .i64 1]), H) := by
  rw [teller_own_E, teller_own_eq]
  unfold Te.own1
  have e0 : decide ((n.length : Int) = 0) = !decide ((0 : Int) < (n.length : Int)) := by rw [Bool.eq_iff_iff, Bool.not_eq_true', decide_eq_true_eq, decide_eq_false_iff_not]; omega
  rw [if_neg (by omega), if_pos rfl, nilI]
  cases hT : decide (t = []) <;> cases hN : decide ((0 : Int) < (n.length : Int)) <;>
  (cases h2 : decide (0 ≤ lo) with
  | false => simp (maxDischargeDepth := 9) only [Qah, Qag, Qab, Qbe, Qbd, Qcl, Qci, Qck, Qfp, Qfu, Qft, Qew, Qee, Qeh, Qeg, Qef, Qem, Qda, Qdc, Qhm, Qas, Qay, Qao, Qgr, Qgq, Qgv, Qhe, Qhb, Qhf, Qdi, Qdl, Qdr, Qdv, Qdg, Qdf, Qhk, Qhi, Qhh, Qcu, Qcn, Qcm, Qcq, Qfy, Qhl, Qgm, Qgd, Qbf, Qbx, Qca, Qcg, Qde, Qdd, Qbs, decide_true, decide_false, Bool.not_true, Bool.not_false, if_true, List.drop_zero, List.drop_succ_cons, List.length_cons, List.length_nil, Nat.add_zero, Nat.zero_add, Option.bind_some, Option.map_some, Bool.and_true, Bool.false_and, Bool.and_false, List.append_nil, List.nil_append, List.cons_append, Nat.reduceAdd, oLoad_ptr, oStore_ptr, List.drop_nil, le_s, Nat.le_refl, Nat.lt_add_one, Nat.zero_le, or_true, true_or, and_true, and_self, Nat.max_self, List.take_zero, List.take_succ_cons, teller_own_j1_eq, lenI, e0, hT, hN, h2, Int.reduceEq, Int.reduceLT, Int.reduceLE]
  | true =>
    cases h3 : decide (lo ≤ 200) with
    | false => simp (maxDischargeDepth := 9) only [Qah, Qag, Qab, Qbe, Qbd, Qcl, Qci, Qck, Qfp, Qfu, Qft, Qew, Qee, Qeh, Qeg, Qef, Qem, Qda, Qdc, Qhm, Qas, Qay, Qao, Qgr, Qgq, Qgv, Qhe, Qhb, Qhf, Qdi, Qdl, Qdr, Qdv, Qdg, Qdf, Qhk, Qhi, Qhh, Qcu, Qcn, Qcm, Qcq, Qfy, Qhl, Qgm, Qgd, Qbf, Qbx, Qca, Qcg, Qde, Qdd, Qbs, decide_true, decide_false, Bool.not_true, Bool.not_false, if_true, List.drop_zero, List.drop_succ_cons, List.length_cons, List.length_nil, Nat.add_zero, Nat.zero_add, Option.bind_some, Option.map_some, Bool.and_true, Bool.false_and, Bool.and_false, List.append_nil, List.nil_append, List.cons_append, Nat.reduceAdd, oLoad_ptr, oStore_ptr, List.drop_nil, le_s, Nat.le_refl, Nat.lt_add_one, Nat.zero_le, or_true, true_or, and_true, and_self, Nat.max_self, List.take_zero, List.take_succ_cons, teller_own_j1_eq, lenI, e0, hT, hN, h2, h3, Int.reduceEq, Int.reduceLT, Int.reduceLE]
    | true =>
      cases h4 : decide (hi = -1) with
      | true => simp (maxDischargeDepth := 9) only [Qah, Qag, Qab, Qbe, Qbd, Qcl, Qcj, Qci, Qck, Qfp, Qfu, Qft, Qew, Qee, Qeh, Qeg, Qef, Qem, Qda, Qdc, Qhm, Qas, Qay, Qao, Qgr, Qgq, Qgv, Qhe, Qhb, Qhf, Qdi, Qdl, Qdr, Qdv, Qdg, Qdf, Qhk, Qhi, Qhh, Qcu, Qcn, Qcm, Qcq, Qfy, Qhl, Qgm, Qgd, Qbf, Qbx, Qca, Qcg, Qde, Qdd, Qbs, decide_true, decide_false, Bool.not_true, Bool.not_false, if_true, List.drop_zero, List.drop_succ_cons, List.length_cons, List.length_nil, Nat.add_zero, Nat.zero_add, Option.bind_some, Option.map_some, Bool.and_true, Bool.and_false, Bool.true_or, List.append_nil, List.nil_append, List.cons_append, Nat.reduceAdd, oLoad_ptr, oStore_ptr, List.drop_nil, le_s, Nat.le_refl, Nat.lt_add_one, Nat.zero_le, or_true, true_or, and_true, and_self, Nat.max_self, List.take_zero, List.take_succ_cons, teller_own_j1_eq, lenI, e0, hT, hN, h2, h3, h4, Int.reduceEq, Int.reduceLT, Int.reduceLE]
      | false =>
        cases h5 : decide (lo ≤ hi) <;> cases h6 : decide (hi ≤ 200) <;> simp (maxDischargeDepth := 9) only [Qah, Qag, Qab, Qbe, Qbd, Qcl, Qci, Qfp, Qfu, Qft, Qew, Qee, Qeh, Qeg, Qef, Qem, Qda, Qdc, Qhm, Qas, Qay, Qao, Qgr, Qgq, Qgv, Qhe, Qhb, Qhf, Qdi, Qdl, Qdr, Qdv, Qdg, Qdf, Qhk, Qhi, Qhh, Qcu, Qcn, Qcm, Qcq, Qfy, Qhl, Qgm, Qgd, Qbf, Qbx, Qca, Qcg, Qde, Qdd, Qbs, decide_true, decide_false, Bool.not_true, Bool.not_false, if_true, List.drop_zero, List.drop_succ_cons, List.length_cons, List.length_nil, Nat.add_zero, Nat.zero_add, Option.bind_some, Option.map_some, Bool.and_true, Bool.and_false, Bool.or_true, Bool.or_false, List.append_nil, List.nil_append, List.cons_append, Nat.reduceAdd, oLoad_ptr, oStore_ptr, List.drop_nil, le_s, Nat.le_refl, Nat.lt_add_one, Nat.zero_le, or_true, true_or, and_true, and_self, Nat.max_self, List.take_zero, List.take_succ_cons, teller_own_j1_eq, lenI, e0, hT, hN, h2, h3, h4, h5, h6, Int.reduceEq, Int.reduceLT, Int.reduceLE])
end Go.Proofs.YthcjjicplodhjaaDoor
end

section
/- What an expression must be by itself: the teller; numbers. -/
namespace Go.Proofs.YthcjjicplodhjaaDoor
open Go Go.Ev
set_option linter.unusedVariables false
set_option linter.unusedSimpArgs false

theorem c4_odds {n : List Int} (hn : n.length ≤ 9223372036854775807) (H : Heap) : E n_slices_ContainsFunc_int_int [encI n, .fn n_teller_own_1 []] H = some (.ret (.bool (!n.all Te.numC)), H) := by
  rw [c_ContainsI hn (q := fun x => !Te.numC x) (fun x _ => c4_odd x H), List.not_all_eq_any_not]
set_option maxHeartbeats 1000000 in
theorem c4_own_6 {lo hi : Int} {t : List UInt8} {n : List Int} {ks : List Rd.Expr} {H : Heap} (hn : n.length ≤ 9223372036854775807) :
    E n_teller_own [.agg [.int .i64 6, .str t, encI n, .int .i64 lo, .int .i64 hi, .vs (encEs ks)]] H = some (.ret (.tup [.bool (Te.own1 6 t n lo hi), .int .i64 0, .int .i64 0]), H) := by
  rw [teller_own_E, teller_own_eq]
  unfold Te.own1 Te.nums
  have e1 : decide (1 ≤ n.length) = decide ((0 : Int) < (n.length : Int)) := by rw [Bool.eq_iff_iff, decide_eq_true_eq, decide_eq_true_eq]; omega
  have e2 : decide (n.length ≤ 10000) = decide ((n.length : Int) ≤ 10000) := by rw [Bool.eq_iff_iff, decide_eq_true_eq, decide_eq_true_eq]; omega
  rw [if_neg (by omega), if_neg (by omega), if_neg (by omega), if_neg (by omega), if_pos rfl, e1, e2]
  cases h3 : decide ((0 : Int) < (n.length : Int)) with
  | false => simp (maxDischargeDepth := 9) only [Qah, Qag, Qab, Qbe, Qbd, Qcl, Qci, Qfp, Qfu, Qft, Qew, Qee, Qeg, Qef, Qem, Qda, Qdc, Qhm, Qas, Qay, Qao, Qgr, Qgq, Qgv, Qhe, Qhb, Qhf, Qdi, Qdl, Qdr, Qdv, Qdg, Qdf, Qhk, Qhi, Qhh, Qcu, Qcn, Qcm, Qcq, Qfy, Qhl, Qgm, Qgd, Qbf, Qbx, Qca, Qcg, Qde, Qdd, Qbs, decide_true, decide_false, if_true, List.drop_zero, List.drop_succ_cons, List.length_cons, List.length_nil, Nat.add_zero, Nat.zero_add, Option.bind_some, Option.map_some, Bool.and_true, Bool.false_and, Bool.and_false, List.append_nil, List.nil_append, List.cons_append, Nat.reduceAdd, oLoad_ptr, oStore_ptr, List.drop_nil, le_s, Nat.le_refl, Nat.lt_add_one, Nat.zero_le, or_true, true_or, and_true, and_self, Nat.max_self, List.take_zero, List.take_succ_cons, teller_own_j1_eq, lenI, c4_odds hn, h3, Int.reduceEq, Int.reduceLT, Int.reduceLE]
  | true =>
    cases h4 : decide ((n.length : Int) ≤ 10000) with
    | false => simp (maxDischargeDepth := 9) only [Qah, Qag, Qab, Qbe, Qbd, Qcl, Qci, Qfp, Qfu, Qft, Qew, Qee, Qeh, Qeg, Qef, Qem, Qda, Qdc, Qhm, Qas, Qay, Qao, Qgr, Qgq, Qgv, Qhe, Qhb, Qhf, Qdi, Qdl, Qdr, Qdv, Qdg, Qdf, Qhk, Qhi, Qhh, Qcu, Qcn, Qcm, Qcq, Qfy, Qhl, Qgm, Qgd, Qbf, Qbx, Qca, Qcg, Qde, Qdd, Qbs, decide_true, decide_false, if_true, List.drop_zero, List.drop_succ_cons, List.length_cons, List.length_nil, Nat.add_zero, Nat.zero_add, Option.bind_some, Option.map_some, Bool.and_true, Bool.and_false, List.append_nil, List.nil_append, List.cons_append, Nat.reduceAdd, oLoad_ptr, oStore_ptr, List.drop_nil, le_s, Nat.le_refl, Nat.lt_add_one, Nat.zero_le, or_true, true_or, and_true, and_self, Nat.max_self, List.take_zero, List.take_succ_cons, teller_own_j1_eq, lenI, c4_odds hn, h3, h4, Int.reduceEq, Int.reduceLT, Int.reduceLE]
    | true =>
      cases h5 : n.all Te.numC with
      | false => simp (maxDischargeDepth := 9) only [Qah, Qag, Qab, Qbe, Qbd, Qcl, Qci, Qfp, Qfu, Qft, Qew, Qfx, Qee, Qeh, Qeg, Qef, Qem, Qda, Qdc, Qhm, Qas, Qay, Qao, Qgr, Qgq, Qgv, Qhe, Qhb, Qhf, Qdi, Qdl, Qdr, Qdv, Qdg, Qdf, Qhk, Qhi, Qhh, Qcu, Qcn, Qcm, Qcq, Qfy, Qhl, Qgm, Qgd, Qbf, Qbx, Qca, Qcg, Qde, Qdd, Qbs, decide_true, decide_false, Bool.not_true, Bool.not_false, if_true, List.drop_zero, List.drop_succ_cons, List.length_cons, List.length_nil, Nat.add_zero, Nat.zero_add, Option.bind_some, Option.map_some, Bool.and_true, Bool.and_false, List.append_nil, List.nil_append, List.cons_append, Nat.reduceAdd, oLoad_ptr, oStore_ptr, List.drop_nil, le_s, Nat.le_refl, Nat.lt_add_one, Nat.zero_le, or_true, true_or, and_true, and_self, Nat.max_self, List.take_zero, List.take_succ_cons, teller_own_j1_eq, lenI, c4_odds hn, h3, h4, h5, Int.reduceEq, Int.reduceLT, Int.reduceLE]
      | true =>
        cases hT : decide (t = []) with
        | false => simp (maxDischargeDepth := 9) only [Qah, Qag, Qab, Qbe, Qbd, Qcl, Qci, Qfp, Qfu, Qft, Qew, Qfx, Qee, Qeh, Qeg, Qef, Qem, Qda, Qdc, Qhm, Qas, Qay, Qao, Qgr, Qgq, Qgv, Qhe, Qhb, Qhf, Qdi, Qdl, Qdr, Qdv, Qdg, Qdf, Qhk, Qhi, Qhh, Qcu, Qcn, Qcm, Qcq, Qfy, Qhl, Qgm, Qgd, Qbf, Qbx, Qca, Qcg, Qde, Qdd, Qbs, decide_true, decide_false, Bool.not_true, Bool.not_false, if_true, List.drop_zero, List.drop_succ_cons, List.length_cons, List.length_nil, Nat.add_zero, Nat.zero_add, Option.bind_some, Option.map_some, Bool.and_true, Bool.false_and, List.append_nil, List.nil_append, List.cons_append, Nat.reduceAdd, oLoad_ptr, oStore_ptr, List.drop_nil, le_s, Nat.le_refl, Nat.lt_add_one, Nat.zero_le, or_true, true_or, and_true, and_self, Nat.max_self, List.take_zero, List.take_succ_cons, teller_own_j1_eq, lenI, c4_odds hn, h3, h4, h5, hT, Int.reduceEq, Int.reduceLT, Int.reduceLE]
        | true =>
          cases h1 : decide (lo = 0) with
          | false => simp (maxDischargeDepth := 9) only [Qah, Qag, Qab, Qbe, Qbd, Qcl, Qci, Qfp, Qfu, Qft, Qew, Qfx, Qfd, Qee, Qeh, Qeg, Qef, Qem, Qda, Qdc, Qhm, Qas, Qay, Qao, Qgr, Qgq, Qgv, Qhe, Qhb, Qhf, Qdi, Qdl, Qdr, Qdv, Qdg, Qdf, Qhk, Qhi, Qhh, Qcu, Qcn, Qcm, Qcq, Qfy, Qhl, Qgm, Qgd, Qbf, Qbx, Qca, Qcg, Qde, Qdd, Qbs, decide_true, decide_false, Bool.not_true, Bool.not_false, if_true, List.drop_zero, List.drop_succ_cons, List.length_cons, List.length_nil, Nat.add_zero, Nat.zero_add, Option.bind_some, Option.map_some, Bool.and_true, Bool.false_and, Bool.and_false, List.append_nil, List.nil_append, List.cons_append, Nat.reduceAdd, oLoad_ptr, oStore_ptr, List.drop_nil, le_s, Nat.le_refl, Nat.lt_add_one, Nat.zero_le, or_true, true_or, and_true, and_self, Nat.max_self, List.take_zero, List.take_succ_cons, teller_own_j1_eq, lenI, c4_odds hn, h3, h4, h5, hT, h1, Int.reduceEq, Int.reduceLT, Int.reduceLE]
          | true =>
            cases h2 : decide (hi = 0) with
            | false => simp (maxDischargeDepth := 9) only [Qah, Qag, Qab, Qbe, Qbd, Qcl, Qci, Qfp, Qfu, Qft, Qew, Qfx, Qfd, Qee, Qeh, Qeg, Qef, Qem, Qda, Qdc, Qhm, Qas, Qay, Qao, Qgr, Qgq, Qgv, Qhe, Qhb, Qhf, Qdi, Qdl, Qdr, Qdv, Qdg, Qdf, Qhk, Qhi, Qhh, Qcu, Qcn, Qcm, Qcq, Qfy, Qhl, Qgm, Qgd, Qbf, Qbx, Qca, Qcg, Qde, Qdd, Qbs, decide_true, decide_false, Bool.not_true, Bool.not_false, if_true, List.drop_zero, List.drop_succ_cons, List.length_cons, List.length_nil, Nat.add_zero, Nat.zero_add, Option.bind_some, Option.map_some, Bool.and_true, Bool.and_false, List.append_nil, List.nil_append, List.cons_append, Nat.reduceAdd, oLoad_ptr, oStore_ptr, List.drop_nil, le_s, Nat.le_refl, Nat.lt_add_one, Nat.zero_le, or_true, true_or, and_true, and_self, Nat.max_self, List.take_zero, List.take_succ_cons, teller_own_j1_eq, lenI, c4_odds hn, h3, h4, h5, hT, h1, h2, Int.reduceEq, Int.reduceLT, Int.reduceLE]
            | true =>
              simp (maxDischargeDepth := 9) only [Qah, Qag, Qab, Qbe, Qbd, Qcl, Qci, Qfp, Qfu, Qft, Qew, Qfx, Qfd, Qee, Qeh, Qeg, Qef, Qem, Qda, Qdc, Qhm, Qas, Qay, Qao, Qgr, Qgq, Qgv, Qhe, Qhb, Qhf, Qdi, Qdl, Qdr, Qdv, Qdg, Qdf, Qhk, Qhi, Qhh, Qcu, Qcn, Qcm, Qcq, Qfy, Qhl, Qgm, Qgd, Qbf, Qbx, Qca, Qcg, Qde, Qdd, Qbs, decide_true, decide_false, Bool.not_true, Bool.not_false, if_true, List.drop_zero, List.drop_succ_cons, List.length_cons, List.length_nil, Nat.add_zero, Nat.zero_add, Option.bind_some, Option.map_some, Bool.and_true, List.append_nil, List.nil_append, List.cons_append, Nat.reduceAdd, oLoad_ptr, oStore_ptr, List.drop_nil, le_s, Nat.le_refl, Nat.lt_add_one, Nat.zero_le, or_true, true_or, and_true, and_self, Nat.max_self, List.take_zero, List.take_succ_cons, teller_own_j1_eq, lenI, c4_odds hn, h3, h4, h5, hT, h1, h2, Int.reduceEq, Int.reduceLT, Int.reduceLE]
end Go.Proofs.YthcjjicplodhjaaDoor
end

section
/- What an expression must be by itself: the teller, whole; whether it is right. -/
namespace Go.Proofs.YthcjjicplodhjaaDoor
open Go Go.Ev
set_option linter.unusedVariables false
set_option linter.unusedSimpArgs false

set_option maxHeartbeats 1000000 in
theorem c4_own_7 {lo hi : Int} {t : List UInt8} {n : List Int} {ks : List Rd.Expr} {H : Heap} (hn : n.length ≤ 9223372036854775807) :
    E n_teller_own [.agg [.int .i64 7, .str t, encI n, .int .i64 lo, .int .i64 hi, .vs (encEs ks)]] H = some (.ret (.tup [.bool (Te.own1 7 t n lo hi), .int .i64 0, .int .i64 0]), H) := by
  rw [teller_own_E, teller_own_eq]
  unfold Te.own1
  rw [if_neg (by omega), if_neg (by omega), if_neg (by omega), if_neg (by omega), if_neg (by omega), if_pos rfl]
  by_cases h2n : n.length = 2
  · obtain ⟨a, b, rfl⟩ : ∃ a b, n = [a, b] := by
      match n, h2n with
      | [a, b], _ => exact ⟨a, b, rfl⟩
    have i0 : ∀ k, oIndexPtr 1 (encI [a, b]) (.int k 0) = some (.fptr [.int .i64 a]) := fun k => oIndexPtr_vs (j := 0) (y := .int .i64 a) rfl rfl
    have i1 : ∀ k, oIndexPtr 1 (encI [a, b]) (.int k 1) = some (.fptr [.int .i64 b]) := fun k => oIndexPtr_vs (j := 1) (y := .int .i64 b) rfl rfl
    have e : Te.nums [a, b] 2 2 = List.all [a, b] Te.numC := by simp [Te.nums]
    rw [e]
    cases h3 : List.all [a, b] Te.numC with
    | false => simp (maxDischargeDepth := 9) only [Qah, Qag, Qab, Qbe, Qbd, Qcl, Qci, Qfp, Qfu, Qft, Qew, Qfx, Qee, Qeh, Qeg, Qef, Qem, Qda, Qdc, Qhm, Qas, Qay, Qao, Qgr, Qgq, Qgv, Qhe, Qhb, Qhf, Qdi, Qdl, Qdr, Qdv, Qdg, Qdf, Qhk, Qhi, Qhh, Qam, Qcu, Qcn, Qcm, Qcq, Qfy, Qhl, Qgm, Qgd, Qbf, Qbx, Qca, Qcg, Qde, Qdd, Qbs, decide_true, decide_false, Bool.not_true, Bool.not_false, if_true, List.drop_zero, List.drop_succ_cons, List.length_cons, List.length_nil, Nat.add_zero, Nat.zero_add, Option.bind_some, Option.map_some, Bool.and_true, Bool.false_and, Bool.and_false, List.append_nil, List.nil_append, List.cons_append, Nat.reduceAdd, oLoad_ptr, oStore_ptr, List.drop_nil, le_s, Nat.le_refl, Nat.lt_add_one, Nat.zero_le, or_true, true_or, and_true, and_self, Nat.max_self, List.take_zero, List.take_succ_cons, teller_own_j1_eq, lenI, c4_odds hn, i0, i1, Int.reduceEq, Int.reduceLT, Int.reduceLE, h3]
    | true =>
      cases h4 : decide (a ≤ b) with
      | false => simp (maxDischargeDepth := 9) only [Qah, Qag, Qab, Qbe, Qbd, Qcl, Qci, Qfp, Qfu, Qft, Qew, Qfx, Qee, Qeh, Qeg, Qef, Qem, Qda, Qdc, Qfk, Qhm, Qas, Qay, Qao, Qgr, Qgq, Qgv, Qhe, Qhb, Qhf, Qdi, Qdl, Qdr, Qdv, Qdg, Qdf, Qhk, Qhi, Qhh, Qam, Qcu, Qcn, Qcm, Qcq, Qfy, Qhl, Qgm, Qgd, Qbf, Qbx, Qca, Qcg, Qde, Qdd, Qbs, decide_true, decide_false, Bool.not_true, Bool.not_false, if_true, List.drop_zero, List.drop_succ_cons, List.length_cons, List.length_nil, Nat.add_zero, Nat.zero_add, Option.bind_some, Option.map_some, Bool.and_true, Bool.and_false, List.append_nil, List.nil_append, List.cons_append, Nat.reduceAdd, oLoad_ptr, oStore_ptr, List.drop_nil, le_s, Nat.le_refl, Nat.lt_add_one, Nat.zero_le, or_true, true_or, and_true, and_self, Nat.max_self, List.take_zero, List.take_succ_cons, teller_own_j1_eq, lenI, c4_odds hn, i0, i1, Int.reduceEq, Int.reduceLT, Int.reduceLE, h3, h4]
      | true =>
        cases hT : decide (t = []) with
        | false => simp (maxDischargeDepth := 9) only [Qah, Qag, Qab, Qbe, Qbd, Qcl, Qci, Qfp, Qfu, Qft, Qew, Qfx, Qee, Qeh, Qeg, Qef, Qem, Qda, Qdc, Qfk, Qhm, Qas, Qay, Qao, Qgr, Qgq, Qgv, Qhe, Qhb, Qhf, Qdi, Qdl, Qdr, Qdv, Qdg, Qdf, Qhk, Qhi, Qhh, Qam, Qcu, Qcn, Qcm, Qcq, Qfy, Qhl, Qgm, Qgd, Qbf, Qbx, Qca, Qcg, Qde, Qdd, Qbs, decide_true, decide_false, Bool.not_true, Bool.not_false, if_true, List.drop_zero, List.drop_succ_cons, List.length_cons, List.length_nil, Nat.add_zero, Nat.zero_add, Option.bind_some, Option.map_some, Bool.and_true, Bool.false_and, List.append_nil, List.nil_append, List.cons_append, Nat.reduceAdd, oLoad_ptr, oStore_ptr, List.drop_nil, le_s, Nat.le_refl, Nat.lt_add_one, Nat.zero_le, or_true, true_or, and_true, and_self, Nat.max_self, List.take_zero, List.take_succ_cons, teller_own_j1_eq, lenI, c4_odds hn, i0, i1, Int.reduceEq, Int.reduceLT, Int.reduceLE, h3, h4, hT]
        | true =>
          cases h1 : decide (lo = 0) with
          | false => simp (maxDischargeDepth := 9) only [Qah, Qag, Qab, Qbe, Qbd, Qcl, Qci, Qfp, Qfu, Qft, Qew, Qfx, Qfd, Qee, Qeh, Qeg, Qef, Qem, Qda, Qdc, Qfk, Qhm, Qas, Qay, Qao, Qgr, Qgq, Qgv, Qhe, Qhb, Qhf, Qdi, Qdl, Qdr, Qdv, Qdg, Qdf, Qhk, Qhi, Qhh, Qam, Qcu, Qcn, Qcm, Qcq, Qfy, Qhl, Qgm, Qgd, Qbf, Qbx, Qca, Qcg, Qde, Qdd, Qbs, decide_true, decide_false, Bool.not_true, Bool.not_false, if_true, List.drop_zero, List.drop_succ_cons, List.length_cons, List.length_nil, Nat.add_zero, Nat.zero_add, Option.bind_some, Option.map_some, Bool.and_true, Bool.false_and, Bool.and_false, List.append_nil, List.nil_append, List.cons_append, Nat.reduceAdd, oLoad_ptr, oStore_ptr, List.drop_nil, le_s, Nat.le_refl, Nat.lt_add_one, Nat.zero_le, or_true, true_or, and_true, and_self, Nat.max_self, List.take_zero, List.take_succ_cons, teller_own_j1_eq, lenI, c4_odds hn, i0, i1, Int.reduceEq, Int.reduceLT, Int.reduceLE, h3, h4, hT, h1]
          | true =>
            cases h2 : decide (hi = 0) with
            | false => simp (maxDischargeDepth := 9) only [Qah, Qag, Qab, Qbe, Qbd, Qcl, Qci, Qfp, Qfu, Qft, Qew, Qfx, Qfd, Qee, Qeh, Qeg, Qef, Qem, Qda, Qdc, Qfk, Qhm, Qas, Qay, Qao, Qgr, Qgq, Qgv, Qhe, Qhb, Qhf, Qdi, Qdl, Qdr, Qdv, Qdg, Qdf, Qhk, Qhi, Qhh, Qam, Qcu, Qcn, Qcm, Qcq, Qfy, Qhl, Qgm, Qgd, Qbf, Qbx, Qca, Qcg, Qde, Qdd, Qbs, decide_true, decide_false, Bool.not_true, Bool.not_false, if_true, List.drop_zero, List.drop_succ_cons, List.length_cons, List.length_nil, Nat.add_zero, Nat.zero_add, Option.bind_some, Option.map_some, Bool.and_true, Bool.and_false, List.append_nil, List.nil_append, List.cons_append, Nat.reduceAdd, oLoad_ptr, oStore_ptr, List.drop_nil, le_s, Nat.le_refl, Nat.lt_add_one, Nat.zero_le, or_true, true_or, and_true, and_self, Nat.max_self, List.take_zero, List.take_succ_cons, teller_own_j1_eq, lenI, c4_odds hn, i0, i1, Int.reduceEq, Int.reduceLT, Int.reduceLE, h3, h4, hT, h1, h2]
            | true =>
              simp (maxDischargeDepth := 9) only [Qah, Qag, Qab, Qbe, Qbd, Qcl, Qci, Qfp, Qfu, Qft, Qew, Qfx, Qfd, Qee, Qeh, Qeg, Qef, Qem, Qda, Qdc, Qfk, Qhm, Qas, Qay, Qao, Qgr, Qgq, Qgv, Qhe, Qhb, Qhf, Qdi, Qdl, Qdr, Qdv, Qdg, Qdf, Qhk, Qhi, Qhh, Qam, Qcu, Qcn, Qcm, Qcq, Qfy, Qhl, Qgm, Qgd, Qbf, Qbx, Qca, Qcg, Qde, Qdd, Qbs, decide_true, decide_false, Bool.not_true, Bool.not_false, if_true, List.drop_zero, List.drop_succ_cons, List.length_cons, List.length_nil, Nat.add_zero, Nat.zero_add, Option.bind_some, Option.map_some, Bool.and_true, List.append_nil, List.nil_append, List.cons_append, Nat.reduceAdd, oLoad_ptr, oStore_ptr, List.drop_nil, le_s, Nat.le_refl, Nat.lt_add_one, Nat.zero_le, or_true, true_or, and_true, and_self, Nat.max_self, List.take_zero, List.take_succ_cons, teller_own_j1_eq, lenI, c4_odds hn, i0, i1, Int.reduceEq, Int.reduceLT, Int.reduceLE, h3, h4, hT, h1, h2]
  · have h2n' : ¬ (n.length : Int) = 2 := by omega
    have hq : Te.nums n 2 2 = false := by
      have e : (decide (2 ≤ n.length) && decide (n.length ≤ 2)) = false := by rw [Bool.and_eq_false_iff, decide_eq_false_iff_not, decide_eq_false_iff_not]; omega
      unfold Te.nums; rw [e, Bool.and_false]
    simp (maxDischargeDepth := 9) only [Qah, Qag, Qab, Qbe, Qbd, Qcl, Qci, Qfp, Qfu, Qft, Qew, Qee, Qeg, Qef, Qem, Qda, Qdc, Qhm, Qas, Qay, Qao, Qgr, Qgq, Qgv, Qhe, Qhb, Qhf, Qdi, Qdl, Qdr, Qdv, Qdg, Qdf, Qhk, Qhi, Qhh, Qcu, Qcn, Qcm, Qcq, Qfy, Qhl, Qgm, Qgd, Qbf, Qbx, Qca, Qcg, Qde, Qdd, Qbs, decide_true, decide_false, if_true, List.drop_zero, List.drop_succ_cons, List.length_cons, List.length_nil, Nat.add_zero, Nat.zero_add, Option.bind_some, Option.map_some, Bool.and_true, Bool.false_and, Bool.and_false, List.append_nil, List.nil_append, List.cons_append, Nat.reduceAdd, oLoad_ptr, oStore_ptr, List.drop_nil, le_s, Nat.le_refl, Nat.lt_add_one, Nat.zero_le, or_true, true_or, and_true, and_self, Nat.max_self, List.take_zero, List.take_succ_cons, teller_own_j1_eq, lenI, h2n', hq, Int.reduceEq, Int.reduceLT, Int.reduceLE]
theorem c4_own {k lo hi : Int} {t : List UInt8} {n : List Int} {ks : List Rd.Expr} {H : Heap} (ht : t.length ≤ 9223372036854775807) (hn : n.length ≤ 9223372036854775807) :
    E n_teller_own [.agg [.int .i64 k, .str t, encI n, .int .i64 lo, .int .i64 hi, .vs (encEs ks)]] H = some (.ret (.tup [.bool (Te.own1 k t n lo hi), .int .i64 (Te.least k), .int .i64 (Te.most k)]), H) := by
  by_cases h1 : k = 1
  · subst h1; exact c4_own_1
  by_cases h2 : k = 2
  · subst h2; exact c4_own_2
  by_cases h3 : k = 3
  · subst h3; exact c4_own_3
  by_cases h4 : k = 4
  · subst h4; exact c4_own_4 ht
  by_cases h5 : k = 5
  · subst h5; exact c4_own_5 ht
  by_cases h6 : k = 6
  · subst h6; exact c4_own_6 hn
  by_cases h7 : k = 7
  · subst h7; exact c4_own_7 hn
  have e1 : Te.least k = 0 := by unfold Te.least; rw [if_neg (by omega), if_neg h3]
  have e2 : Te.most k = 0 := by unfold Te.most; rw [if_neg (by omega), if_neg h3]
  rw [e1, e2]
  exact c4_own_0 h1 h2 h3 h4 h5 h6 h7
end Go.Proofs.YthcjjicplodhjaaDoor
end

section
/- Whether an expression is right: the teller. -/
namespace Go.Proofs.YthcjjicplodhjaaDoor
open Go Go.Ev
set_option linter.unusedVariables false
set_option linter.unusedSimpArgs false

theorem own_own1 (k : Int) (t : List UInt8) (n : List Int) (lo hi : Int) (c : Nat) : Te.own k t n lo hi c = (Te.own1 k t n lo hi && (decide (Te.least k ≤ (c : Int)) && (decide (Te.most k < 0) || decide ((c : Int) ≤ Te.most k)))) := by
  unfold Te.own Te.own1 Te.least Te.most
  by_cases h12 : k = 1 ∨ k = 2
  · simp only [if_pos h12]
    have e : (decide ((2 : Int) ≤ (c : Int)) && (decide ((-1 : Int) < 0) || decide ((c : Int) ≤ -1))) = decide (1 < c) := by
      rw [Bool.eq_iff_iff]; simp only [Bool.and_eq_true, Bool.or_eq_true, decide_eq_true_eq]; omega
    rw [e]
  simp only [if_neg h12]
  by_cases h3 : k = 3
  · simp only [if_pos h3]
    cases decide (t = []) <;> cases decide (n = []) <;> simp only [Bool.true_and, Bool.false_and]
    rw [Bool.eq_iff_iff]; simp only [Bool.and_eq_true, Bool.or_eq_true, decide_eq_true_eq]; omega
  simp only [if_neg h3]
  have e0 : (decide ((0 : Int) ≤ (c : Int)) && (decide ((0 : Int) < 0) || decide ((c : Int) ≤ 0))) = decide (c = 0) := by
    rw [Bool.eq_iff_iff]; simp only [Bool.and_eq_true, Bool.or_eq_true, decide_eq_true_eq]; omega
  rw [e0]
  by_cases h4 : k = 4
  · simp only [if_pos h4]
    cases decide (c = 0) <;> cases Te.name t <;> simp only [Bool.and_true, Bool.and_false]
  simp only [if_neg h4]
  by_cases h5 : k = 5
  · simp only [if_pos h5]
    cases decide (c = 0) <;> cases Te.fold t <;> simp only [Bool.and_true, Bool.and_false]
  simp only [if_neg h5]
  by_cases h6 : k = 6
  · simp only [if_pos h6]
    cases decide (c = 0) <;> cases Te.nums n 1 10000 <;> simp only [Bool.and_true, Bool.and_false]
  simp only [if_neg h6]
  by_cases h7 : k = 7
  · simp only [if_pos h7]
    cases decide (c = 0) <;> simp only [Bool.and_true, Bool.and_false, Bool.false_and]
  simp only [if_neg h7, Bool.false_and]

theorem c4_within : ∀ (d : Nat), d ≤ 1000000 → ∀ {e : Rd.Expr}, e.Fit → ∀ H : Heap, E n_teller_within [encE e, .int .i64 d] H = some (.ret (.bool (Te.right d e)), H)
  | d, hd, e, he, H => by
    cases he with
    | @mk k t n lo hi ks ht hn hks hf =>
      rw [teller_within_E, teller_within_eq]
      simp only [encE]
      have hR : Te.right d (.mk k t n lo hi ks) = ((if d = 0 then ks.isEmpty else ks.all (Te.right (d - 1))) && Te.own k t n lo hi ks.length) := by
        cases d with
        | zero =>
          simp only [Te.right, if_true]
          cases ks with
          | nil => rfl
          | cons x ks => rfl
        | succ d => simp [Te.right]
      rw [hR, own_own1]
      have hlen : (encEs ks).length = ks.length := by rw [encEs_map]; simp
      cases h1 : Te.own1 k t n lo hi with
      | false => simp (maxDischargeDepth := 9) only [Qah, Qag, Qab, Qbe, Qcj, Qck, Qfp, Qfo, Qfu, Qew, Qfx, Qff, Qet, Qeu, Qev, Qda, Qdc, Qhm, Qgf, Qas, Qao, Qgr, Qgq, Qgv, Qhe, Qhf, Qcu, Qcn, Qcm, Qfy, Qhl, Qbs, Bool.not_false, List.drop_zero, List.drop_succ_cons, List.length_cons, List.length_nil, Nat.zero_add, Bool.and_true, Bool.false_and, Bool.and_false, Nat.reduceAdd, oLoad_ptr, le_s, Nat.le_refl, Nat.lt_add_one, List.take_zero, List.take_succ_cons, c4_own ht hn, hlen, h1]
      | true =>
        cases h2 : decide (Te.least k ≤ (ks.length : Int)) with
        | false =>
          have h2' : (ks.length : Int) < Te.least k := by simpa using h2
          simp (maxDischargeDepth := 9) only [Qah, Qag, Qab, Qbe, Qcl, Qcj, Qck, Qfp, Qfo, Qfu, Qft, Qew, Qfx, Qff, Qet, Qeu, Qev, Qei, Qda, Qdc, Qhm, Qgf, Qas, Qao, Qgr, Qgq, Qgv, Qhe, Qhf, Qcu, Qcn, Qcm, Qfy, Qhl, Qbs, decide_true, Bool.not_true, List.drop_zero, List.drop_succ_cons, List.length_cons, List.length_nil, Nat.zero_add, Bool.and_true, Bool.false_and, Bool.and_false, Nat.reduceAdd, oLoad_ptr, le_s, Nat.le_refl, Nat.lt_add_one, List.take_zero, List.take_succ_cons, c4_own ht hn, hlen, h1, h2']
        | true =>
          have h2' : ¬ (ks.length : Int) < Te.least k := by simpa using h2
          cases h3 : decide (Te.most k < 0) || decide ((ks.length : Int) ≤ Te.most k) with
          | false =>
            simp only [Bool.or_eq_false_iff, decide_eq_false_iff_not] at h3
            have h4 : 0 ≤ Te.most k := by omega
            have h5 : Te.most k < (ks.length : Int) := by omega
            simp (maxDischargeDepth := 9) only [Qah, Qag, Qab, Qbe, Qcl, Qcj, Qck, Qfp, Qfo, Qfu, Qft, Qew, Qfx, Qff, Qet, Qeu, Qev, Qei, Qeg, Qef, Qda, Qdc, Qhm, Qgf, Qas, Qao, Qgr, Qgq, Qgv, Qhe, Qhf, Qcu, Qcn, Qcm, Qfy, Qhl, Qbs, decide_true, decide_false, Bool.not_true, List.drop_zero, List.drop_succ_cons, List.length_cons, List.length_nil, Nat.zero_add, Bool.and_true, Bool.and_false, Nat.reduceAdd, oLoad_ptr, le_s, Nat.le_refl, Nat.lt_add_one, List.take_zero, List.take_succ_cons, c4_own ht hn, hlen, h1, h2', h4, h5]
          | true =>
            have hm : decide (0 ≤ Te.most k) = false ∨ (decide (0 ≤ Te.most k) = true ∧ decide (Te.most k < (ks.length : Int)) = false) := by
              simp only [Bool.or_eq_true, decide_eq_true_eq] at h3
              simp only [decide_eq_true_eq, decide_eq_false_iff_not]
              omega
            by_cases h0 : d = 0
            · subst h0
              cases ks with
              | nil =>
                have hc := c_ContainsE (l := []) (f := n_teller_within_1) (cap := [.ptr (H.length + 1) 0 0]) (q := fun _ => false) (H := .var [.int .i64 0] :: .var [.int .i64 k, .str t, encI n, .int .i64 lo, .int .i64 hi, .vs (encEs [])] :: H) (by simp) (by simp)
                simp only [List.any_nil] at hc
                simp only [List.length_nil, Qam] at hm h2' hlen
                rcases hm with h4 | ⟨h4, h5⟩
                · simp (maxDischargeDepth := 9) only [Qah, Qag, Qab, Qbd, Qcl, Qci, Qfp, Qfo, Qft, Qew, Qfx, Qff, Qet, Qeu, Qev, Qei, Qeg, Qef, Qda, Qdc, Qhm, Qgf, Qas, Qao, Qgr, Qgq, Qgv, Qhe, Qhf, Qam, Qcu, Qcn, Qcm, Qfy, Qhl, Qbs, decide_false, Bool.not_true, Bool.not_false, if_true, List.drop_zero, List.drop_succ_cons, List.length_cons, List.length_nil, Nat.zero_add, Bool.and_true, Nat.reduceAdd, oLoad_ptr, le_s, Nat.le_refl, Nat.lt_add_one, List.take_zero, List.take_succ_cons, c4_own ht hn, hlen, h1, h2', h4, hc, Int.lt_irrefl, List.isEmpty_nil]
                · simp (maxDischargeDepth := 9) only [Qah, Qag, Qab, Qbd, Qcl, Qci, Qfp, Qfo, Qfu, Qft, Qew, Qfx, Qff, Qet, Qeu, Qev, Qei, Qeg, Qef, Qda, Qdc, Qhm, Qgf, Qas, Qao, Qgr, Qgq, Qgv, Qhe, Qhf, Qam, Qcu, Qcn, Qcm, Qfy, Qhl, Qbs, decide_false, Bool.not_true, Bool.not_false, if_true, List.drop_zero, List.drop_succ_cons, List.length_cons, List.length_nil, Nat.zero_add, Bool.and_true, Nat.reduceAdd, oLoad_ptr, le_s, Nat.le_refl, Nat.lt_add_one, List.take_zero, List.take_succ_cons, c4_own ht hn, hlen, h1, h2', h4, h5, hc, Int.lt_irrefl, List.isEmpty_nil]
              | cons x ks =>
                have hp : (0 : Int) < ((ks.length + 1 : Nat) : Int) := by omega
                simp only [List.length_cons] at hm h2' hlen
                rcases hm with h4 | ⟨h4, h5⟩
                · simp (maxDischargeDepth := 9) only [Qah, Qag, Qab, Qbe, Qcl, Qci, Qfp, Qfo, Qfu, Qft, Qew, Qfx, Qff, Qet, Qeu, Qev, Qee, Qei, Qeg, Qef, Qda, Qdc, Qhm, Qgf, Qas, Qao, Qgr, Qgq, Qgv, Qhe, Qhf, Qam, Qcu, Qcn, Qcm, Qfy, Qhl, Qbs, decide_true, decide_false, Bool.not_true, if_true, List.drop_zero, List.drop_succ_cons, List.length_cons, List.length_nil, Nat.zero_add, Bool.and_true, Nat.reduceAdd, oLoad_ptr, le_s, Nat.le_refl, Nat.lt_add_one, List.take_zero, List.take_succ_cons, c4_own ht hn, hlen, h1, h2', h4, hp, List.isEmpty_cons]
                · simp (maxDischargeDepth := 9) only [Qah, Qag, Qab, Qbe, Qcl, Qfp, Qfo, Qfu, Qft, Qew, Qfx, Qff, Qet, Qeu, Qev, Qee, Qei, Qeg, Qef, Qda, Qdc, Qhm, Qgf, Qas, Qao, Qgr, Qgq, Qgv, Qhe, Qhf, Qam, Qcu, Qcn, Qcm, Qfy, Qhl, Qbs, decide_true, decide_false, Bool.not_true, if_true, List.drop_zero, List.drop_succ_cons, List.length_cons, List.length_nil, Nat.zero_add, Bool.and_true, Nat.reduceAdd, oLoad_ptr, le_s, Nat.le_refl, Nat.lt_add_one, List.take_zero, List.take_succ_cons, c4_own ht hn, hlen, h1, h2', h4, h5, hp, List.isEmpty_cons]
            · obtain ⟨d, rfl⟩ : ∃ q, d = q + 1 := ⟨d - 1, by omega⟩
              have hz : ¬ ((d + 1 : Nat) : Int) = 0 := by omega
              have hw : IntKind.i64.wrap (((d + 1 : Nat) : Int) - 1) = (d : Int) := by rw [wrap_i64 (by omega) (by omega)]; omega
              have hk : ∀ x ∈ ks, E n_teller_within_1 (encE x :: [.ptr (H.length + 1) 0 0]) (.var [.int .i64 ((d + 1 : Nat) : Int)] :: .var [.int .i64 k, .str t, encI n, .int .i64 lo, .int .i64 hi, .vs (encEs ks)] :: H) = some (.ret (.bool (!Te.right d x)), .var [.int .i64 ((d + 1 : Nat) : Int)] :: .var [.int .i64 k, .str t, encI n, .int .i64 lo, .int .i64 hi, .vs (encEs ks)] :: H) := fun x hx => by
                have ih := fun H => c4_within d (by omega) (hf x hx) H
                rw [teller_within_1_E, teller_within_1_eq]
                simp (maxDischargeDepth := 9) only [Qah, Qag, Qab, Qfx, Qeo, Qdc, Qhm, Qgf, Qcu, Qcn, Qcm, Qfy, Qhl, Qcx, Qbh, Qbn, Qbg, Qbp, List.drop_zero, List.length_cons, oLoad_ptr, Nat.le_refl, Nat.lt_add_one, takeE, hw, ih]
              have hc := c_ContainsE hks hk
              rw [if_neg (by omega), Nat.add_sub_cancel]
              have hall : (!ks.any fun x => !Te.right d x) = ks.all (Te.right d) := by rw [← List.not_all_eq_any_not, Bool.not_not]
              rcases hm with h4 | ⟨h4, h5⟩
              · cases hp : decide ((0 : Int) < (ks.length : Int)) <;> simp (maxDischargeDepth := 9) only [Qah, Qag, Qab, Qbd, Qcl, Qci, Qfp, Qfo, Qfu, Qft, Qew, Qfx, Qff, Qet, Qeu, Qev, Qee, Qei, Qeg, Qef, Qda, Qdc, Qhm, Qgf, Qas, Qao, Qgr, Qgq, Qgv, Qhe, Qhf, Qcu, Qcn, Qcm, Qfy, Qhl, Qbs, decide_false, Bool.not_true, List.drop_zero, List.drop_succ_cons, List.length_cons, List.length_nil, Nat.zero_add, Bool.and_true, Nat.reduceAdd, oLoad_ptr, le_s, Nat.le_refl, Nat.lt_add_one, List.take_zero, List.take_succ_cons, c4_own ht hn, hlen, h1, h2', h4, hp, hz, hc, hall]
              · cases hp : decide ((0 : Int) < (ks.length : Int)) <;> simp (maxDischargeDepth := 9) only [Qah, Qag, Qab, Qbd, Qcl, Qci, Qfp, Qfo, Qfu, Qft, Qew, Qfx, Qff, Qet, Qeu, Qev, Qee, Qei, Qeg, Qef, Qda, Qdc, Qhm, Qgf, Qas, Qao, Qgr, Qgq, Qgv, Qhe, Qhf, Qcu, Qcn, Qcm, Qfy, Qhl, Qbs, decide_false, Bool.not_true, List.drop_zero, List.drop_succ_cons, List.length_cons, List.length_nil, Nat.zero_add, Bool.and_true, Nat.reduceAdd, oLoad_ptr, le_s, Nat.le_refl, Nat.lt_add_one, List.take_zero, List.take_succ_cons, c4_own ht hn, hlen, h1, h2', h4, h5, hp, hz, hc, hall]
  termination_by d => d
theorem c4_Right {e : Rd.Expr} (he : e.Fit) (H : Heap) : E n_teller_Right [encE e] H = some (.ret (.bool (Te.right 50 e)), H) := by
  have h := fun H => c4_within 50 (by omega) he H
  simp only [Qam] at h
  rw [teller_Right_E, encE_nrm, teller_Right_eq]
  simp (maxDischargeDepth := 9) only [Qah, Qag, Qab, Qda, Qdc, Qgf, Qcu, Qcm, Qfy, Qhl, Qbh, Qbn, Qbg, Qbp, List.drop_zero, oLoad_ptr, Nat.le_refl, h]
theorem c4_Right_N (v : V) (H : Heap) : E n_teller_Right [v] H = E n_teller_Right [v.nrm] H := by rw [teller_Right_E, teller_Right_E, nrm_nrm]
end Go.Proofs.YthcjjicplodhjaaDoor
end

