/- Ta: a part of the proof that each law of this seat answers true at every input. No condition. -/
import Derived.Test.YtjnkigaiogjfcaaDoorHint
import Derived.Test.YtjnkigaiogjfcaaDoorFns
import Derived.Test.YtjnkigaiogjfcaaDoorEvH
import Derived.Test.YtjnkigaiogjfcaaDoorXa
set_option linter.unusedVariables false
set_option linter.unusedSimpArgs false
set_option maxRecDepth 20000
section
/- Sets of bytes: the document's. -/
namespace Go.Proofs.YtjnkigaiogjfcaaDoor
open Go Go.Ev Go.X7
set_option linter.unusedVariables false
set_option linter.unusedSimpArgs false
set_option maxRecDepth 20000

theorem load_w (s : S4) (H : Heap) {j : Nat} (h : j < 4) : takeCells false 1 (List.drop j s.cs) = some (.int .u64 (s.w j)) := by
 match j, h with
 | 0, _ => rfl
 | 1, _ => rfl
 | 2, _ => rfl
 | 3, _ => rfl
theorem splice_w (s : S4) {j x : Nat} (h : j < 4) : splice s.cs j [.int .u64 (x : Int)] = (s.setW j x).cs := by
 match j, h with
 | 0, _ => rfl
 | 1, _ => rfl
 | 2, _ => rfl
 | 3, _ => rfl
theorem quo64 (b : Nat) (h : b < 256) : oBin .quo 6 (.int .i64 (b : Int)) (.int .i64 64) = some (.int .i64 ((b / 64 : Nat) : Int)) := by
 rw [oBin_quo _ _ _ _ (by decide), Int.tdiv_eq_ediv_of_nonneg (by omega), wrap_i64 (by omega) (by omega)]
 norm_cast
theorem rem64 (b : Nat) (h : b < 256) : oBin .rem 6 (.int .i64 (b : Int)) (.int .i64 64) = some (.int .i64 ((b % 64 : Nat) : Int)) := by
 rw [oBin_rem _ _ _ _ (by decide), Int.tmod_eq_emod_of_nonneg (by omega)]
 norm_cast

theorem r1_Has {s : S4} (hs : s.ok) {b : Nat} (hb : b < 256) (H : Heap) : E n_ref01_Has [encS s, .int .i64 (b : Int)] H = some (.ret (.bool (s.has b)), H) := by
 rw [ref01_Has_E, ref01_Has_eq]
 have h0 : (0 : Int) ≤ (b : Int) := by omega
 have h1 : (b : Int) < 256 := by omega
 have hj : b / 64 < 4 := by omega
 have hm : b % 64 < 64 := Nat.mod_lt _ (by omega)
 have hw := S4.w_lt hs (b / 64)
 have hw2 : s.w (b / 64) / 2 ^ (b % 64) < 18446744073709551616 := Nat.lt_of_le_of_lt (Nat.div_le_self _ _) hw
 have e : decide (((s.w (b / 64) / 2 ^ (b % 64) % 2 : Nat) : Int) = 1) = s.has b := by
  unfold S4.has
  rw [Nat.testBit_eq_decide_div_mod_eq]
  rw [Bool.eq_iff_iff]; simp only [decide_eq_true_eq]; omega
 simp (maxDischargeDepth := 9) only [Qah, Qag, Qci, Qfm, Qfr, Qeb, Qef, Qec, Qcx, Qcz, Qgc, Qan, Qgo, Qgn, Qgs, Qcr, Qcj, Qfv, decide_true, Nat.zero_add, Bool.and_true, oLoad_ptr, Nat.le_refl, h0, h1, quo64 b hb, rem64 b hb, oIndexPtrA_at hj, Nat.mul_one, load_w s H hj, oBin_shr64 hm, oBin_and1 hw2, e]
theorem r1_with {s : S4} (hs : s.ok) {b : Nat} (hb : b < 256) (H : Heap) : E n_ref01_with [encS s, .int .i64 (b : Int)] H = some (.ret (encS (s.put b)), H) := by
 rw [ref01_with_E, ref01_with_eq]
 have hj : b / 64 < 4 := by omega
 have hm : b % 64 < 64 := Nat.mod_lt _ (by omega)
 have hw := S4.w_lt hs (b / 64)
 have hj2 : b / 64 + 1 ≤ 4 := by omega
 simp (maxDischargeDepth := 9) only [Qah, Qag, Qcx, Qcz, Qar, Qan, Qgo, Qgn, Qgs, Qdi, Qde, Qdd, Qdc, Qhh, Qhf, Qcr, Qck, Qco, Qcj, Qcn, Qfv, Qhi, Qgb, Qga, Qbe, Qbx, Qbt, Qdb, Qda, if_true, List.drop_zero, List.drop_succ_cons, List.length_cons, List.length_nil, Nat.zero_add, Option.bind_some, Option.map_some, Bool.and_true, List.append_nil, Nat.reduceAdd, oLoad_ptr, oStore_ptr, List.drop_nil, le_s, Nat.le_refl, Nat.lt_add_one, Nat.zero_le, or_true, true_or, and_true, and_self, Nat.max_self, List.take_zero, List.take_succ_cons, quo64 b hb, rem64 b hb, oIndexPtrA_at hj, Nat.mul_one, load_w s H hj, oBin_shl1 hm, oBin_or64 hw (pow_lt hm), splice_w s hj, hj2]
 rfl
def tbl (n f s b x y : Bool) : Bool := (!x && !y && n) || (x && !y && f) || (!x && y && s) || (x && y && b)
set_option maxHeartbeats 2000000 in
theorem r1_pick_l {s t : S4} (hs : s.ok) (ht : t.ok) {H : Heap} : ∀ (m k : Nat), 256 - k = m → k ≤ 256 → ∀ r : S4, r.ok → (∀ i, i < 256 → r.has i = (decide (i < k) && tbl false true true true (s.has i) (t.has i))) →
  ∃ r' : S4, r'.ok ∧ (∀ i, i < 256 → r'.has i = tbl false true true true (s.has i) (t.has i)) ∧
  ref01_pick_l1 H.length (.bool false) (.bool true) (.bool true) (.bool true) (.ptr H.length 0 0) (.ptr (H.length + 1) 0 0) (.ptr (H.length + 2) 0 0) (.ptr (H.length + 3) 0 0) (.int .i64 (k : Int)) (.var r.cs :: .var S4.zero.cs :: .var t.cs :: .var s.cs :: H) = some (.ret (encS r'), H)
 | m, k, hm, hk, r, hr, hp => by
  rw [ref01_pick_l1_eq]
  by_cases h : k < 256
  ·have h' : (k : Int) < 256 := by omega
   obtain ⟨m, rfl⟩ : ∃ j, m = j + 1 := ⟨m - 1, by omega⟩
   have w1 : IntKind.i64.wrap ((k : Int) + 1) = ((k + 1 : Nat) : Int) := by rw [wrap_i64 (by omega) (by omega)]; omega
   cases hq : tbl false true true true (s.has k) (t.has k) with
   | true =>
    obtain ⟨r', q1, q2, ih⟩ := r1_pick_l hs ht (H := H) m (k + 1) (by omega) (by omega) (r.put k) (S4.put_ok hr k) (fun i hi => by
     rw [S4.put_has r h hi, hp i hi]
     by_cases e : i = k
     ·subst e; simp [hq]
     ·have : (i < k + 1) ↔ i < k := by omega
      simp [e, this])
    refine ⟨r', q1, q2, ?_⟩
    have hw := fun H => r1_with hr h H
    have j2 : ∀ G, ref01_pick_j2 H.length (.bool false) (.bool true) (.bool true) (.bool true) (.ptr H.length 0 0) (.ptr (H.length + 1) 0 0) (.ptr (H.length + 2) 0 0) (.ptr (H.length + 3) 0 0) (.int .i64 (k : Int)) G = ref01_pick_l1 H.length (.bool false) (.bool true) (.bool true) (.bool true) (.ptr H.length 0 0) (.ptr (H.length + 1) 0 0) (.ptr (H.length + 2) 0 0) (.ptr (H.length + 3) 0 0) (.int .i64 ((k + 1 : Nat) : Int)) G := fun G => by
     rw [ref01_pick_j2_eq]; simp (maxDischargeDepth := 9) only [Qah, Qdx, w1]
    cases hx : s.has k <;> cases hy : t.has k <;> simp only [hx, hy, tbl, Bool.not_true, Bool.not_false, Bool.and_true, Bool.and_false, Bool.true_and, Bool.false_and, Bool.or_false, Bool.or_true, Bool.false_or, Bool.true_or, Bool.false_eq_true] at hq <;>
     simp (maxDischargeDepth := 9) only [Qah, Qag, Qab, Qbd, Qci, Qcg, Qcf, Qch, Qhd, Qgm, Qfm, Qfr, Qfq, Qfu, Qef, Qcx, Qcz, Qan, Qgo, Qgn, Qgs, Qdi, Qde, Qdd, Qdc, Qhh, Qhf, Qcr, Qck, Qco, Qcj, Qcn, Qhi, Qgb, Qga, Qbe, Qbx, Qbt, Qdb, Qda, decide_true, Bool.not_true, Bool.not_false, if_true, List.drop_zero, List.drop_succ_cons, List.length_cons, List.length_nil, Nat.zero_add, Option.bind_some, Option.map_some, Bool.and_true, List.append_nil, Nat.reduceAdd, oLoad_ptr, oStore_ptr, List.drop_nil, lt_s, le_s, Nat.le_refl, Nat.lt_add_one, Nat.zero_le, or_true, true_or, and_true, and_self, Nat.max_self, List.take_zero, List.take_succ_cons, h', r1_Has hs h, r1_Has ht h, hx, hy, hw, j2, ih]
   | false =>
    obtain ⟨r', q1, q2, ih⟩ := r1_pick_l hs ht (H := H) m (k + 1) (by omega) (by omega) r hr (fun i hi => by
     rw [hp i hi]
     by_cases e : i = k
     ·subst e; simp [hq]
     ·have : (i < k + 1) ↔ i < k := by omega
      simp [this])
    refine ⟨r', q1, q2, ?_⟩
    have j2 : ∀ G, ref01_pick_j2 H.length (.bool false) (.bool true) (.bool true) (.bool true) (.ptr H.length 0 0) (.ptr (H.length + 1) 0 0) (.ptr (H.length + 2) 0 0) (.ptr (H.length + 3) 0 0) (.int .i64 (k : Int)) G = ref01_pick_l1 H.length (.bool false) (.bool true) (.bool true) (.bool true) (.ptr H.length 0 0) (.ptr (H.length + 1) 0 0) (.ptr (H.length + 2) 0 0) (.ptr (H.length + 3) 0 0) (.int .i64 ((k + 1 : Nat) : Int)) G := fun G => by
     rw [ref01_pick_j2_eq]; simp (maxDischargeDepth := 9) only [Qah, Qdx, w1]
    cases hx : s.has k <;> cases hy : t.has k <;> simp only [hx, hy, tbl, Bool.not_true, Bool.not_false, Bool.and_true, Bool.and_false, Bool.true_and, Bool.false_and, Bool.or_false, Bool.or_true, Bool.false_or, Bool.true_or, Bool.true_eq_false] at hq <;>
     simp (maxDischargeDepth := 9) only [Qah, Qag, Qab, Qbd, Qbc, Qci, Qcf, Qhd, Qgm, Qfm, Qfr, Qfq, Qfu, Qef, Qcx, Qcz, Qan, Qgo, Qgn, Qgs, Qdi, Qde, Qdd, Qdc, Qhh, Qhf, Qcr, Qck, Qco, Qcj, Qcn, Qhi, Qgb, Qga, Qbe, Qbx, Qbt, Qdb, Qda, decide_true, Bool.not_false, if_true, List.drop_zero, List.drop_succ_cons, List.length_cons, List.length_nil, Nat.zero_add, Option.bind_some, Option.map_some, Bool.and_true, List.append_nil, Nat.reduceAdd, oLoad_ptr, oStore_ptr, List.drop_nil, lt_s, le_s, Nat.le_refl, Nat.lt_add_one, Nat.zero_le, true_or, and_true, and_self, Nat.max_self, List.take_zero, List.take_succ_cons, h', r1_Has hs h, r1_Has ht h, hx, hy, j2, ih]
  ·have h' : ¬ (k : Int) < 256 := by omega
   refine ⟨r, hr, fun i hi => by rw [hp i hi]; have : i < k := (by omega); simp [this], ?_⟩
   simp (maxDischargeDepth := 9) only [Qah, Qag, Qbc, Qfm, Qef, Qcx, Qcz, Qan, Qgo, Qgn, Qgs, Qdi, Qde, Qdd, Qdc, Qhh, Qhf, Qcr, Qck, Qco, Qcj, Qcn, Qhi, Qgb, Qga, Qbe, Qbx, Qbt, Qdb, Qda, decide_false, if_true, List.drop_zero, List.drop_succ_cons, List.length_cons, List.length_nil, Nat.zero_add, Option.bind_some, Option.map_some, Bool.and_true, List.append_nil, Nat.reduceAdd, oLoad_ptr, oStore_ptr, List.drop_nil, lt_s, le_s, Nat.le_refl, Nat.lt_add_one, Nat.zero_le, true_or, and_true, and_self, Nat.max_self, List.take_zero, List.take_succ_cons, h']
theorem r1_Join {s t : S4} (hs : s.ok) (ht : t.ok) (H : Heap) : E n_ref01_Join [encS s, encS t] H = some (.ret (encS (s.join t)), H) := by
 have pk : ∀ G, E n_ref01_pick [encS s, encS t, .bool false, .bool true, .bool true, .bool true] G = some (.ret (encS (s.join t)), G) := fun G => by
  obtain ⟨r', q1, q2, q3⟩ := r1_pick_l hs ht (H := G) 256 0 rfl (by omega) S4.zero S4.zero_ok (fun i _ => by simp [S4.zero_has])
  have e : r' = s.join t := S4.ext q1 (S4.join_ok hs ht) fun i hi => by
   rw [q2 i hi, S4.join_has]
   cases s.has i <;> cases t.has i <;> rfl
  subst e
  rw [ref01_pick_E, ref01_pick_eq]
  simp only [Qam] at q3
  have z : S4.zero.cs = [.int .u64 0, .int .u64 0, .int .u64 0, .int .u64 0] := rfl
  rw [z] at q3
  simp (maxDischargeDepth := 9) only [Qag, Qan, Qgo, Qgn, Qgs, Qfv, List.length_cons, Bool.and_true, q3]
 rw [ref01_Join_E, ref01_Join_eq]
 simp (maxDischargeDepth := 9) only [Qah, Qag, Qab, Qcx, Qcz, Qan, Qgo, Qgn, Qgs, Qdi, Qde, Qdd, Qdc, Qhh, Qhf, Qcr, Qck, Qcj, Qcn, Qfv, Qhi, Qgb, Qga, Qbe, Qbx, Qbt, Qdb, Qda, if_true, List.drop_zero, List.drop_succ_cons, List.length_cons, List.length_nil, Nat.zero_add, Option.bind_some, Option.map_some, Bool.and_true, List.append_nil, Nat.reduceAdd, oLoad_ptr, oStore_ptr, List.drop_nil, lt_s, le_s, Nat.le_refl, Nat.lt_add_one, Nat.zero_le, or_true, and_self, Nat.max_self, List.take_zero, List.take_succ_cons, pk]
end Go.Proofs.YtjnkigaiogjfcaaDoor
end

section
/- Sets of bytes: from one to another one, how many, ranges; both sides. -/
namespace Go.Proofs.YtjnkigaiogjfcaaDoor
open Go Go.Ev Go.X7
set_option linter.unusedVariables false
set_option linter.unusedSimpArgs false
set_option maxRecDepth 20000

theorem wk {k : Nat} (h : k < 256) : IntKind.i64.wrap ((k : Int) + 1) = ((k + 1 : Nat) : Int) := by rw [wrap_i64 (by omega) (by omega)]; omega
/-- A set from one byte to another one. -/
def S4.rng (s : S4) (lo hi : Int) : Prop := s.ok ∧ ∀ i : Nat, i < 256 → s.has i = (decide (lo ≤ (i : Int)) && decide ((i : Int) ≤ hi))
theorem r1_Of_l {lo hi : Int} {H : Heap} : ∀ (m k : Nat), 256 - k = m → k ≤ 256 → ∀ r : S4, r.ok → (∀ i : Nat, i < 256 → r.has i = (decide (i < k) && (decide (lo ≤ (i : Int)) && decide ((i : Int) ≤ hi)))) →
  ∃ r' : S4, S4.rng r' lo hi ∧ ref01_Of_l1 H.length (.int .i64 lo) (.int .i64 hi) (.ptr H.length 0 0) (.ptr (H.length + 1) 0 0) (.int .i64 (k : Int)) (.var r.cs :: .var S4.zero.cs :: H) = some (.ret (encS r'), H)
 | m, k, hm, hk, r, hr, hp => by
  rw [ref01_Of_l1_eq]
  by_cases h : k < 256
  ·have h' : (k : Int) < 256 := by omega
   obtain ⟨m, rfl⟩ : ∃ j, m = j + 1 := ⟨m - 1, by omega⟩
   have w1 := wk h
   have j2 : ∀ G, ref01_Of_j2 H.length (.int .i64 lo) (.int .i64 hi) (.ptr H.length 0 0) (.ptr (H.length + 1) 0 0) (.int .i64 (k : Int)) G = ref01_Of_l1 H.length (.int .i64 lo) (.int .i64 hi) (.ptr H.length 0 0) (.ptr (H.length + 1) 0 0) (.int .i64 ((k + 1 : Nat) : Int)) G := fun G => by
    rw [ref01_Of_j2_eq]; simp (maxDischargeDepth := 9) only [Qah, Qdx, w1]
   cases hq : decide (lo ≤ (k : Int)) && decide ((k : Int) ≤ hi) with
   | true =>
    obtain ⟨r', q1, ih⟩ := r1_Of_l (lo := lo) (hi := hi) (H := H) m (k + 1) (by omega) (by omega) (r.put k) (S4.put_ok hr k) (fun i hi' => by
     rw [S4.put_has r h hi', hp i hi']
     by_cases e : i = k
     ·subst e; simp [hq]
     ·have : (i < k + 1) ↔ i < k := by omega
      simp [e, this])
    refine ⟨r', q1, ?_⟩
    have hw := fun H => r1_with hr h H
    simp only [Bool.and_eq_true, decide_eq_true_eq] at hq
    obtain ⟨g1, g2⟩ := hq
    simp (maxDischargeDepth := 9) only [Qah, Qag, Qab, Qbd, Qci, Qfm, Qfr, Qef, Qee, Qec, Qcx, Qcz, Qan, Qgo, Qgn, Qgs, Qdi, Qde, Qdd, Qdc, Qhh, Qhf, Qcr, Qck, Qco, Qcj, Qcn, Qhi, Qgb, Qga, Qbe, Qbx, Qbt, Qdb, Qda, decide_true, if_true, List.drop_zero, List.drop_succ_cons, List.length_cons, List.length_nil, Nat.zero_add, Option.bind_some, Option.map_some, Bool.and_true, List.append_nil, Nat.reduceAdd, oLoad_ptr, oStore_ptr, List.drop_nil, le_s, Nat.le_refl, Nat.lt_add_one, Nat.zero_le, or_true, true_or, and_true, and_self, Nat.max_self, List.take_zero, List.take_succ_cons, h', g1, g2, hw, j2, ih]
   | false =>
    obtain ⟨r', q1, ih⟩ := r1_Of_l (lo := lo) (hi := hi) (H := H) m (k + 1) (by omega) (by omega) r hr (fun i hi' => by
     rw [hp i hi']
     by_cases e : i = k
     ·subst e; simp [hq]
     ·have : (i < k + 1) ↔ i < k := by omega
      simp [this])
    refine ⟨r', q1, ?_⟩
    cases g1 : decide (lo ≤ (k : Int)) <;> cases g2 : decide ((k : Int) ≤ hi) <;> simp only [g1, g2, Bool.and_true, Bool.and_false, Bool.true_and, Bool.true_eq_false] at hq <;>
     simp (maxDischargeDepth := 9) only [Qah, Qag, Qbd, Qbc, Qci, Qcf, Qfm, Qfr, Qfq, Qef, Qee, Qec, Qcx, Qcz, Qan, Qgo, Qgn, Qgs, Qdi, Qde, Qdd, Qdc, Qhh, Qhf, Qcr, Qck, Qco, Qcj, Qcn, Qhi, Qgb, Qga, Qbe, Qbx, Qbt, Qdb, Qda, decide_true, if_true, List.drop_zero, List.drop_succ_cons, List.length_cons, List.length_nil, Nat.zero_add, Option.bind_some, Option.map_some, Bool.and_true, List.append_nil, Nat.reduceAdd, oLoad_ptr, oStore_ptr, List.drop_nil, le_s, Nat.le_refl, Nat.lt_add_one, Nat.zero_le, true_or, and_true, and_self, Nat.max_self, List.take_zero, List.take_succ_cons, h', g1, g2, j2, ih]
  ·have h' : ¬ (k : Int) < 256 := by omega
   refine ⟨r, ⟨hr, fun i hi => by rw [hp i hi]; have : i < k := (by omega); simp [this]⟩, ?_⟩
   simp (maxDischargeDepth := 9) only [Qah, Qag, Qbc, Qfm, Qef, Qec, Qcx, Qcz, Qan, Qgo, Qgn, Qgs, Qdi, Qde, Qdd, Qdc, Qhh, Qhf, Qcr, Qck, Qco, Qcj, Qcn, Qhi, Qgb, Qga, Qbe, Qbx, Qbt, Qdb, Qda, decide_false, if_true, List.drop_zero, List.drop_succ_cons, List.length_cons, List.length_nil, Nat.zero_add, Option.bind_some, Option.map_some, Bool.and_true, List.append_nil, Nat.reduceAdd, oLoad_ptr, oStore_ptr, List.drop_nil, le_s, Nat.le_refl, Nat.lt_add_one, Nat.zero_le, true_or, and_true, and_self, Nat.max_self, List.take_zero, List.take_succ_cons, h']
theorem r1_Of (lo hi : Int) (H : Heap) : ∃ r : S4, S4.rng r lo hi ∧ E n_ref01_Of [.int .i64 lo, .int .i64 hi] H = some (.ret (encS r), H) := by
 obtain ⟨r, h1, h2⟩ := r1_Of_l (lo := lo) (hi := hi) (H := H) 256 0 rfl (by omega) S4.zero S4.zero_ok (fun i _ => by simp [S4.zero_has])
 refine ⟨r, h1, ?_⟩
 rw [ref01_Of_E, ref01_Of_eq]
 simp only [Qam] at h2
 have z : S4.zero.cs = [.int .u64 0, .int .u64 0, .int .u64 0, .int .u64 0] := rfl
 rw [z] at h2
 simp (maxDischargeDepth := 9) only [Qag, Qan, Qgo, Qgn, Qgs, Qfv, List.length_cons, Bool.and_true, h2]

/-- How many bytes of the first k. -/
def S4.upto (s : S4) (k : Nat) : List Nat := (List.range k).filter s.has
theorem S4.upto_succ (s : S4) (k : Nat) : S4.upto s (k + 1) = S4.upto s k ++ if s.has k then [k] else [] := by
 unfold S4.upto
 rw [List.range_succ, List.filter_append]
 cases h : s.has k <;> simp [h]
theorem S4.upto_len (s : S4) (k : Nat) : (S4.upto s k).length ≤ k := by
 have := List.length_filter_le s.has (List.range k)
 simpa [S4.upto] using this
theorem r1_Count_l {s : S4} (hs : s.ok) {H : Heap} : ∀ (m k : Nat), 256 - k = m → k ≤ 256 →
  ref01_Count_l1 H.length (.ptr H.length 0 0) (.int .i64 ((S4.upto s k).length : Int)) (.int .i64 (k : Int)) (.var s.cs :: H) = some (.ret (.int .i64 (s.bytes.length : Int)), H)
 | m, k, hm, hk => by
  rw [ref01_Count_l1_eq]
  by_cases h : k < 256
  ·have h' : (k : Int) < 256 := by omega
   obtain ⟨m, rfl⟩ : ∃ j, m = j + 1 := ⟨m - 1, by omega⟩
   have w1 := wk h
   have ih := r1_Count_l hs (H := H) m (k + 1) (by omega) (by omega)
   have j2 : ∀ c G, ref01_Count_j2 H.length (.ptr H.length 0 0) c (.int .i64 (k : Int)) G = ref01_Count_l1 H.length (.ptr H.length 0 0) c (.int .i64 ((k + 1 : Nat) : Int)) G := fun c G => by
    rw [ref01_Count_j2_eq]; simp (maxDischargeDepth := 9) only [Qah, Qdx, w1]
   rw [S4.upto_succ] at ih
   have hl := S4.upto_len s k
   cases hx : s.has k with
   | true =>
    rw [hx, if_pos rfl, List.length_append] at ih
    have w2 : IntKind.i64.wrap (((S4.upto s k).length : Int) + 1) = (((S4.upto s k).length + [k].length : Nat) : Int) := by rw [wrap_i64 (by omega) (by omega)]; simp
    simp (maxDischargeDepth := 9) only [Qah, Qab, Qbd, Qdx, Qef, Qcx, Qcz, Qge, Qcr, Qcj, Qhi, decide_true, List.drop_zero, List.length_cons, List.length_nil, Nat.zero_add, Nat.reduceAdd, oLoad_ptr, Nat.le_refl, List.take_zero, List.take_succ_cons, h', r1_Has hs h, hx]
    rw [w2, j2, ih]
   | false =>
    rw [hx, if_neg (by simp), List.append_nil] at ih
    simp (maxDischargeDepth := 9) only [Qah, Qab, Qbd, Qbc, Qdx, Qef, Qcx, Qcz, Qge, Qcr, Qcj, Qhi, decide_true, List.drop_zero, List.length_cons, List.length_nil, Nat.zero_add, Nat.reduceAdd, oLoad_ptr, Nat.le_refl, List.take_zero, List.take_succ_cons, h', r1_Has hs h, hx, j2, ih]
  ·have h' : ¬ (k : Int) < 256 := by omega
   have e : s.bytes = S4.upto s k := by rw [show k = 256 by omega]; rfl
   rw [e]
   simp (maxDischargeDepth := 9) only [Qah, Qbc, Qdx, Qef, Qcx, Qcz, Qge, Qcr, Qcj, Qhi, decide_false, List.drop_zero, List.length_cons, List.length_nil, Nat.zero_add, Nat.reduceAdd, oLoad_ptr, Nat.le_refl, List.take_zero, List.take_succ_cons, h']
theorem r1_Count {s : S4} (hs : s.ok) (H : Heap) : E n_ref01_Count [encS s] H = some (.ret (.int .i64 (s.bytes.length : Int)), H) := by
 rw [ref01_Count_E, ref01_Count_eq]
 have k := r1_Count_l hs (H := H) 256 0 rfl (by omega)
 simp only [Qam, S4.upto, List.range_zero, List.filter_nil, List.length_nil] at k
 simp (maxDischargeDepth := 9) only [Qag, Qan, Qgo, Qgn, Qgs, Qfv, Bool.and_true, k]

theorem b_Join {s t : S4} (hs : s.ok) (ht : t.ok) (H : Heap) : E n_byteset_Join [encS s, encS t] H = some (.ret (encS (s.join t)), H) := by
 rw [byteset_Join_E, byteset_Join_eq]
 obtain ⟨a, b, c, d⟩ := s
 obtain ⟨a', b', c', d'⟩ := t
 obtain ⟨h0, h1, h2, h3⟩ := hs
 obtain ⟨g0, g1, g2, g3⟩ := ht
 simp only at h0 h1 h2 h3 g0 g1 g2 g3
 have x0 := fun (v : Nat) (o : Nat) => oIndexPtrA_at (len := 4) (n := 1) (i := v) (v := 0) (o := o) (k := .i64) (j := 0) (by omega)
 have x1 := fun (v : Nat) (o : Nat) => oIndexPtrA_at (len := 4) (n := 1) (i := v) (v := 0) (o := o) (k := .i64) (j := 1) (by omega)
 have x2 := fun (v : Nat) (o : Nat) => oIndexPtrA_at (len := 4) (n := 1) (i := v) (v := 0) (o := o) (k := .i64) (j := 2) (by omega)
 have x3 := fun (v : Nat) (o : Nat) => oIndexPtrA_at (len := 4) (n := 1) (i := v) (v := 0) (o := o) (k := .i64) (j := 3) (by omega)
 have y0 := fun (cs : List V) (hc : cs.length = 4) => oIndexA_at (len := 4) (n := 1) (k := .i64) (j := 0) (cs := cs) (by omega) (by omega)
 have y1 := fun (cs : List V) (hc : cs.length = 4) => oIndexA_at (len := 4) (n := 1) (k := .i64) (j := 1) (cs := cs) (by omega) (by omega)
 have y2 := fun (cs : List V) (hc : cs.length = 4) => oIndexA_at (len := 4) (n := 1) (k := .i64) (j := 2) (cs := cs) (by omega) (by omega)
 have y3 := fun (cs : List V) (hc : cs.length = 4) => oIndexA_at (len := 4) (n := 1) (k := .i64) (j := 3) (cs := cs) (by omega) (by omega)
 simp only [Qam] at x0 x1 x2 x3 y0 y1 y2 y3
 have q0 := oBin_or64 (e := 6) h0 g0
 have q1 := oBin_or64 (e := 6) h1 g1
 have q2 := oBin_or64 (e := 6) h2 g2
 have q3 := oBin_or64 (e := 6) h3 g3
 have w0 : IntKind.i64.wrap 1 = 1 := by decide
 have w1 : IntKind.i64.wrap 2 = 2 := by decide
 have w2 : IntKind.i64.wrap 3 = 3 := by decide
 have w3 : IntKind.i64.wrap 4 = 4 := by decide
 simp (maxDischargeDepth := 9) only [Qah, Qag, Qcz, Qan, Qgo, Qgn, Qgs, Qck, Qcj, Qfv, Qhi, List.drop_zero, List.length_cons, List.length_nil, Nat.zero_add, Bool.and_true, Nat.reduceAdd, oLoad_ptr, Nat.le_refl, Nat.lt_add_one, List.take_zero, List.take_succ_cons]
 rw [byteset_Join_l1_eq]
 simp (maxDischargeDepth := 9) only [Qah, Qag, Qbd, Qdx, Qef, Qcx, Qcz, Qhj, Qar, Qan, Qgo, Qgn, Qgs, Qdi, Qde, Qdd, Qdc, Qhh, Qcr, Qck, Qco, Qcj, Qcn, Qhi, Qgb, Qga, Qbe, Qbx, Qbt, Qdb, Qda, decide_true, if_true, List.drop_zero, List.drop_succ_cons, List.length_cons, List.length_nil, Nat.add_zero, Nat.zero_add, Option.bind_some, Option.map_some, Bool.and_true, List.append_nil, List.nil_append, List.cons_append, Nat.reduceAdd, Nat.reduceMul, Int.reduceAdd, oLoad_ptr, oStore_ptr, List.drop_nil, lt_s, le_s, Nat.le_refl, Nat.lt_add_one, Nat.zero_le, or_true, true_or, and_true, and_self, Nat.max_self, List.take_zero, List.take_succ_cons, Int.reduceLT, x0, y0, q0, w0, splice, S4.cs, List.getElem?_cons_zero, List.getElem?_cons_succ]
 rw [byteset_Join_l1_eq]
 simp (maxDischargeDepth := 9) only [Qah, Qag, Qbd, Qdx, Qef, Qcx, Qcz, Qhj, Qar, Qan, Qgo, Qgn, Qgs, Qdi, Qde, Qdd, Qdc, Qhh, Qcr, Qck, Qco, Qcj, Qcn, Qhi, Qgb, Qga, Qbe, Qbx, Qbt, Qdb, Qda, decide_true, if_true, List.drop_zero, List.drop_succ_cons, List.length_cons, List.length_nil, Nat.zero_add, Option.bind_some, Option.map_some, Bool.and_true, List.append_nil, List.nil_append, List.cons_append, Nat.reduceAdd, Nat.reduceMul, Int.reduceAdd, oLoad_ptr, oStore_ptr, List.drop_nil, lt_s, le_s, Nat.le_refl, Nat.lt_add_one, Nat.zero_le, or_true, true_or, and_true, and_self, Nat.max_self, List.take_zero, List.take_succ_cons, Int.reduceLT, x1, y1, q1, w1, splice, S4.cs, List.getElem?_cons_zero, List.getElem?_cons_succ]
 rw [byteset_Join_l1_eq]
 simp (maxDischargeDepth := 9) only [Qah, Qag, Qbd, Qdx, Qef, Qcx, Qcz, Qhj, Qar, Qan, Qgo, Qgn, Qgs, Qdi, Qde, Qdd, Qdc, Qhh, Qcr, Qck, Qco, Qcj, Qcn, Qhi, Qgb, Qga, Qbe, Qbx, Qbt, Qdb, Qda, decide_true, if_true, List.drop_zero, List.drop_succ_cons, List.length_cons, List.length_nil, Nat.zero_add, Option.bind_some, Option.map_some, Bool.and_true, List.append_nil, List.nil_append, List.cons_append, Nat.reduceAdd, Nat.reduceMul, Int.reduceAdd, oLoad_ptr, oStore_ptr, List.drop_nil, lt_s, le_s, Nat.le_refl, Nat.lt_add_one, Nat.zero_le, or_true, true_or, and_true, and_self, Nat.max_self, List.take_zero, List.take_succ_cons, Int.reduceLT, x2, y2, q2, w2, splice, S4.cs, List.getElem?_cons_zero, List.getElem?_cons_succ]
 rw [byteset_Join_l1_eq]
 simp (maxDischargeDepth := 9) only [Qah, Qag, Qbd, Qdx, Qef, Qcx, Qcz, Qhj, Qar, Qan, Qgo, Qgn, Qgs, Qdi, Qde, Qdd, Qdc, Qhh, Qcr, Qck, Qco, Qcj, Qcn, Qhi, Qgb, Qga, Qbe, Qbx, Qbt, Qdb, Qda, decide_true, if_true, List.drop_zero, List.drop_succ_cons, List.length_cons, List.length_nil, Nat.zero_add, Option.bind_some, Option.map_some, Bool.and_true, List.append_nil, List.nil_append, List.cons_append, Nat.reduceAdd, Nat.reduceMul, Int.reduceAdd, oLoad_ptr, oStore_ptr, List.drop_nil, lt_s, le_s, Nat.le_refl, Nat.lt_add_one, Nat.zero_le, or_true, true_or, and_true, and_self, Nat.max_self, List.take_zero, List.take_succ_cons, Int.reduceLT, x3, y3, q3, w3, splice, S4.cs, List.getElem?_cons_zero, List.getElem?_cons_succ]
 rw [byteset_Join_l1_eq]
 simp (maxDischargeDepth := 9) only [Qah, Qag, Qbc, Qdx, Qef, Qcx, Qcz, Qan, Qgo, Qgn, Qgs, Qdi, Qde, Qdd, Qdc, Qhh, Qhf, Qcr, Qck, Qcj, Qcn, Qhi, Qgb, Qga, Qbe, Qbx, Qbt, Qdb, Qda, decide_false, if_true, List.drop_zero, List.drop_succ_cons, List.length_cons, List.length_nil, Nat.zero_add, Option.bind_some, Option.map_some, Bool.and_true, List.append_nil, Nat.reduceAdd, Int.reduceAdd, oLoad_ptr, oStore_ptr, List.drop_nil, lt_s, le_s, Nat.le_refl, Nat.lt_add_one, Nat.zero_le, true_or, and_true, and_self, Nat.max_self, List.take_zero, List.take_succ_cons, Int.reduceLT]
 rfl
end Go.Proofs.YtjnkigaiogjfcaaDoor
end

section
/- One byte of a set; digits; ranges; a set's text: both sides. -/
namespace Go.Proofs.YtjnkigaiogjfcaaDoor
open Go Go.Ev Go.X7
set_option linter.unusedVariables false
set_option linter.unusedSimpArgs false
set_option maxRecDepth 20000

theorem eqS (s t : S4) : oBin .eql 46 (.agg s.cs) (.agg t.cs) = some (.bool (decide (s = t))) := by
 rw [oBin_eq]
 have e : beqL s.cs t.cs = decide (s = t) := by
  rw [Bool.eq_iff_iff]
  obtain ⟨a, b, c, d⟩ := s
  obtain ⟨a', b', c', d'⟩ := t
  simp only [S4.cs, beqL, V.beq, Bool.and_eq_true, beq_iff_eq, decide_eq_true_eq, S4.mk.injEq, and_true, true_and, Int.natCast_inj]
 have hi : intsL .u64 s.cs = true := rfl
 have hj : intsL .u64 t.cs = true := rfl
 simp only [rBin, rBin0, rEq, rEqA, vBinE, kindOfNo, List.length_cons, List.length_nil, Nat.reduceAdd, Nat.reduceDiv, Nat.reduceMod, hi, hj, and_self, if_true, Option.map_some, e]
theorem neS (s t : S4) : oBin .neq 46 (.agg s.cs) (.agg t.cs) = some (.bool (!decide (s = t))) := by
 rw [oBin_eq]
 have := eqS s t
 rw [oBin_eq] at this
 simp only [rBin, rBin0, rEq, rEqA, vBinE] at this ⊢
 cases h : (if List.length s.cs = 39 / 8 ∧ List.length t.cs = 39 / 8 ∧ intsL (kindOfNo (39 % 8)) s.cs = true ∧ intsL (kindOfNo (39 % 8)) t.cs = true then some (beqL s.cs t.cs) else none) with
 | none => rw [h] at this; simp at this
 | some b => rw [h] at this; simp only [Option.map_some, Option.some.injEq, V.bool.injEq] at this ⊢; rw [this]
theorem bS0 : oBuildA [.int .u64 0, .int .u64 0, .int .u64 0, .int .u64 0] 1 [] = some (.agg S4.zero.cs) := by
 rw [oBuildA_eq]; rfl
abbrev zX : List V := [.int .i64 0, .int .u64 0, .int .u64 0, .int .u64 0, .int .u64 0, .nils]
theorem bX0 : oBuild zX [(0, 1), (1, 4), (5, 1)] [] = some (.agg zX) := by simp [splice]
theorem bXk (k : Int) : oBuild zX [(0, 1), (1, 4), (5, 1)] [(0, .int .i64 k)] = some (.agg [.int .i64 k, .int .u64 0, .int .u64 0, .int .u64 0, .int .u64 0, .nils]) := by simp [splice]
theorem bXs (k : Int) (s : S4) : oBuild zX [(0, 1), (1, 4), (5, 1)] [(0, .int .i64 k), (1, .agg s.cs)] = some (.agg [.int .i64 k, .int .u64 s.a, .int .u64 s.b, .int .u64 s.c, .int .u64 s.d, .nils]) := by simp [splice]
theorem bXv (k : Int) (l : List V) : oBuild zX [(0, 1), (1, 4), (5, 1)] [(0, .int .i64 k), (2, .vs l)] = some (.agg [.int .i64 k, .int .u64 0, .int .u64 0, .int .u64 0, .int .u64 0, .vs l]) := by simp [splice]
def ofX (s : S4) : X := if s = S4.zero then .mk 0 S4.zero [] else .mk 2 s []
theorem p7_Of (s : S4) (H : Heap) : E n_regex_Of [encS s] H = some (.ret (encX (ofX s)), H) := by
 rw [regex_Of_E, regex_Of_eq]
 unfold ofX
 by_cases h : s = S4.zero
 ·rw [if_pos h]
  have e := eqS s S4.zero
  rw [decide_eq_true h] at e
  have b := bXk 0
  simp (maxDischargeDepth := 9) only [Qah, Qag, Qbd, Qcx, Qcz, Qan, Qgo, Qgn, Qgs, Qgy, Qdi, Qdo, Qdt, Qde, Qdd, Qdc, Qhh, Qhf, Qcr, Qck, Qcj, Qcn, Qfv, Qhi, Qgb, Qga, Qbe, Qbx, Qca, Qbt, Qdb, Qda, if_true, List.drop_zero, List.drop_succ_cons, List.length_cons, List.length_nil, Nat.zero_add, Option.bind_some, Option.map_some, Bool.and_true, List.append_nil, Nat.reduceAdd, oLoad_ptr, oStore_ptr, List.drop_nil, le_s, Nat.le_refl, Nat.lt_add_one, Nat.zero_le, or_true, true_or, and_true, and_self, Nat.max_self, List.take_zero, List.take_succ_cons, bS0, e, b]
  rfl
 ·rw [if_neg h]
  have e := eqS s S4.zero
  rw [decide_eq_false h] at e
  have b := bXs 2 s
  simp (maxDischargeDepth := 9) only [Qah, Qag, Qbc, Qcx, Qcz, Qan, Qgo, Qgn, Qgs, Qgy, Qdi, Qdt, Qde, Qdd, Qdc, Qhh, Qhf, Qcr, Qck, Qcj, Qcn, Qfv, Qhi, Qgb, Qga, Qbe, Qbx, Qca, Qbt, Qdb, Qda, if_true, List.drop_zero, List.drop_succ_cons, List.length_cons, List.length_nil, Nat.zero_add, Option.bind_some, Option.map_some, Bool.and_true, List.append_nil, Nat.reduceAdd, oLoad_ptr, oStore_ptr, List.drop_nil, le_s, Nat.le_refl, Nat.lt_add_one, Nat.zero_le, true_or, and_true, and_self, Nat.max_self, List.take_zero, List.take_succ_cons, bS0, e, b]
  rfl
theorem r7_Of {s : S4} (hs : s.ok) (H : Heap) : E n_ref07_Of [encS s] H = some (.ret (encX (ofX s)), H) := by
 rw [ref07_Of_E, ref07_Of_eq]
 unfold ofX
 have c := fun H => r1_Count hs H
 have hz := S4.zero_bytes hs
 by_cases h : s = S4.zero
 ·rw [if_pos h]
  have e : decide ((s.bytes.length : Int) = 0) = true := by rw [hz.1 h]; rfl
  have b := bX0
  simp (maxDischargeDepth := 9) only [Qah, Qag, Qab, Qbd, Qeb, Qcx, Qcz, Qan, Qgo, Qgn, Qgs, Qgy, Qdi, Qdo, Qdt, Qde, Qdd, Qdc, Qhh, Qhf, Qcr, Qck, Qcj, Qcn, Qfv, Qhi, Qgb, Qga, Qbe, Qbx, Qca, Qbt, Qdb, Qda, if_true, List.drop_zero, List.drop_succ_cons, List.length_cons, List.length_nil, Nat.zero_add, Option.bind_some, Option.map_some, Bool.and_true, List.append_nil, Nat.reduceAdd, oLoad_ptr, oStore_ptr, List.drop_nil, le_s, Nat.le_refl, Nat.lt_add_one, Nat.zero_le, or_true, true_or, and_true, and_self, Nat.max_self, List.take_zero, List.take_succ_cons, c, e, b]
  rfl
 ·rw [if_neg h]
  have e : decide ((s.bytes.length : Int) = 0) = false := by
   have : s.bytes ≠ [] := fun x => h (hz.2 x)
   have := List.length_pos_iff.2 this
   rw [decide_eq_false_iff_not]; omega
  have b := bXs 2 s
  simp (maxDischargeDepth := 9) only [Qah, Qag, Qab, Qbc, Qeb, Qcx, Qcz, Qan, Qgo, Qgn, Qgs, Qgy, Qdi, Qdo, Qdt, Qde, Qdd, Qdc, Qhh, Qhf, Qcr, Qck, Qcj, Qcn, Qfv, Qhi, Qen, Qgb, Qga, Qbe, Qbx, Qca, Qbt, Qdb, Qda, if_true, List.drop_zero, List.drop_succ_cons, List.length_cons, List.length_nil, Nat.zero_add, Option.bind_some, Option.map_some, Bool.and_true, List.append_nil, Nat.reduceAdd, oLoad_ptr, oStore_ptr, List.drop_nil, le_s, Nat.le_refl, Nat.lt_add_one, Nat.zero_le, or_true, true_or, and_true, and_self, Nat.max_self, List.take_zero, List.take_succ_cons, c, e, b]
  rfl

theorem dec_small {n : Nat} (h : n < 10) : Lib.decDigits n = [UInt8.ofNat (48 + n)] := by rw [Lib.decDigits, dif_pos h]
theorem dec_big {n : Nat} (h : ¬ n < 10) : Lib.decDigits n = Lib.decDigits (n / 10) ++ [UInt8.ofNat (48 + n % 10)] := by rw [Lib.decDigits, dif_neg h]
theorem dec_len : ∀ n : Nat, (Lib.decDigits n).length ≤ n + 1
 | n => by
  by_cases h : n < 10
  ·rw [dec_small h]; simp
  ·rw [dec_big h]
   have := dec_len (n / 10)
   simp; omega
theorem r7_Digits : ∀ (n : Nat), n ≤ 1000000000 → ∀ H : Heap, E n_ref07_digits [.int .i64 n] H = some (.ret (.str (Lib.decDigits n)), H)
 | n, hn, H => by
  have q1 : IntKind.i64.wrap ((n : Int).tdiv 10) = ((n / 10 : Nat) : Int) := by
   rw [Int.tdiv_eq_ediv_of_nonneg (by omega), wrap_i64 (by omega) (by omega)]; omega
  have m1 : (n : Int).tmod 10 = ((n % 10 : Nat) : Int) := by rw [Int.tmod_eq_emod_of_nonneg (by omega)]; omega
  have o1 := oBin_quo .i64 6 (n : Int) 10 (by omega)
  have o2 := oBin_rem .i64 6 (n : Int) 10 (by omega)
  rw [q1] at o1
  rw [m1] at o2
  have w1 : IntKind.i64.wrap (48 + ((n % 10 : Nat) : Int)) = ((48 + n % 10 : Nat) : Int) := by rw [wrap_i64 (by omega) (by omega)]; omega
  have w2 : IntKind.u8.wrap ((48 + n % 10 : Nat) : Int) = ((48 + n % 10 : Nat) : Int) := wrap_u8 (by omega) (by omega)
  have hb : (UInt8.ofNat (48 + n % 10)).toNat = 48 + n % 10 := by simp [UInt8.toNat_ofNat']; omega
  have ht : ∀ H, oText H (.vs [.int .u8 ((48 + n % 10 : Nat) : Int)]) = some (.str [UInt8.ofNat (48 + n % 10)]) := fun H => by
   have := oText_vs (H := H) (s := [UInt8.ofNat (48 + n % 10)])
   simp only [List.map_cons, List.map_nil, hb] at this
   exact this
  rw [ref07_digits_E, ref07_digits_eq]
  by_cases h : n < 10
  ·have h' : (n : Int) < 10 := by omega
   have e : n % 10 = n := by omega
   rw [dec_small h]
   rw [e] at o2 w1 w2 ht
   simp (maxDischargeDepth := 9) only [Qah, Qbd, Qey, Qdx, Qef, Qcx, Qgi, Qff, decide_true, o2, w1, w2, ht, h']
  ·have h' : ¬ (n : Int) < 10 := by omega
   have ih := fun H => r7_Digits (n / 10) (by omega) H
   have hl := dec_len (n / 10)
   have c1 : oBin .add 6 (.str (Lib.decDigits (n / 10))) (.str [UInt8.ofNat (48 + n % 10)]) = some (.str (Lib.decDigits (n / 10) ++ [UInt8.ofNat (48 + n % 10)])) := oBin_cat _ _ _ (by simp; omega)
   rw [dec_big h]
   simp (maxDischargeDepth := 9) only [Qah, Qab, Qbc, Qey, Qdx, Qef, Qcx, Qgi, Qff, decide_false, o1, o2, w1, w2, ht, h', ih, c1]
 termination_by n => n
theorem r7_itoa {n : Int} (h : 0 ≤ n ∧ n ≤ 255) (H : Heap) : E n_ref07_digits [.int .i64 n] H = some (.ret (.str (Lib.itoa n)), H) := by
 obtain ⟨k, rfl⟩ : ∃ k : Nat, n = k := ⟨n.toNat, by omega⟩
 have e : Lib.itoa (k : Int) = Lib.decDigits k := by unfold Lib.itoa; rw [if_neg (by omega), show ((k : Int)).toNat = k by omega]
 rw [e]
 exact r7_Digits k (by omega) H
theorem i7_Itoa {n : Int} (h : 0 ≤ n ∧ n ≤ 255) (H : Heap) : E n_strconv_Itoa [.int .i64 n] H = some (.ret (.str (Lib.itoa n)), H) := by
 have h0 : -9223372036854775808 ≤ n := by omega
 have h1 : n ≤ 9223372036854775807 := by omega
 rw [show E = EV Tryd.prog hint D from rfl, EV_intr (g := iRd gItoa) rfl]
 unfold iRd gItoa
 simp only [h0, h1, and_self, if_true, Option.map_some]
/-- Ranges as values. -/
def encR (x : Int × Int) : V := .agg [.int .i64 x.1, .int .i64 x.2]
theorem encR_ok : EncOK encR 2 := ⟨by omega, fun x => ⟨_, rfl, rfl, rfl, rfl, fun c hc => by
 simp only [List.mem_cons, List.not_mem_nil, or_false] at hc
 rcases hc with rfl | rfl <;> rfl, rfl⟩⟩
theorem i7_Ranges {s : S4} (hs : s.ok) (H : Heap) : E n_byteset_Ranges [encS s] H = some (.ret (.vs (s.rs.map encR)), H) := by
 rw [show E = EV Tryd.prog hint D from rfl, EV_intr (g := iRd gRanges) rfl]
 have o : ∀ x : Nat, x < 18446744073709551616 → wordOK (x : Int) = true := fun x hx => by unfold wordOK; simp; omega
 have e := S4.allB_eq (s := s)
 unfold iRd gRanges
 simp only [encS, S4.cs, o _ hs.1, o _ hs.2.1, o _ hs.2.2.1, o _ hs.2.2.2, Bool.and_self, if_true, Option.map_some, Int.toNat_natCast, e]
 rfl
theorem strsV_map : ∀ l : List (List UInt8), strsV (l.map V.str) = some l
 | [] => rfl
 | s :: l => by simp [strsV, strsV_map l]
theorem i7_Join_row {l : List (List UInt8)} {sep : List UInt8} (h1 : l.length ≤ 140737488355328) (h2 : (Lib.join l sep).length ≤ 140737488355328) {H : Heap} {i ver : Nat} (hg : hget H i = some (.row ver 1 false (l.map V.str))) :
  E n_strings_Join [.rs i ver 1 0 l.length, .str sep] H = some (.ret (.str (Lib.join l sep)), H) := by
 rw [show E = EV Tryd.prog hint D from rfl, EV_intr (g := iRd gJoin) rfl]
 unfold iRd gJoin
 have hc : List.take l.length (l.map V.str) = l.map V.str := List.take_of_length_le (by simp)
 simp [slLen, slCells, hg, strsV_map, h1, h2, hc]
theorem i7_Join_nil {sep : List UInt8} (H : Heap) : E n_strings_Join [.nils, .str sep] H = some (.ret (.str []), H) := by
 rw [show E = EV Tryd.prog hint D from rfl, EV_intr (g := iRd gJoin) rfl]
 unfold iRd gJoin
 simp [slLen, slCells, strsV, Lib.join_nil]
theorem idxR {l : List (Int × Int)} {j : Nat} (h : j < l.length) (k : IntKind) : oIndexPtr 2 (.vs (l.map encR)) (.int k (j : Int)) = some (.fptr (encR l[j]).cells) :=
 oIndexPtr_vs (y := encR l[j]) (by simp [h]) rfl
theorem set_step {x : Int × Int} (hx : (0 ≤ x.1 ∧ x.1 ≤ 255) ∧ (0 ≤ x.2 ∧ x.2 ≤ 255)) : (∃ t u, Lib.itoa x.1 = t ∧ Lib.itoa x.2 = u ∧ t.length ≤ 3 ∧ u.length ≤ 3) := ⟨_, _, rfl, rfl, itoa_len hx.1.1 hx.1.2, itoa_len hx.2.1 hx.2.2⟩
set_option maxHeartbeats 1000000 in
theorem set_l {rs : List (Int × Int)} (hr : ∀ x ∈ rs, (0 ≤ x.1 ∧ x.1 ≤ 255) ∧ (0 ≤ x.2 ∧ x.2 ≤ 255)) (hn : rs.length ≤ 256) {H : Heap} {idx : Nat} (hidx : H.length ≤ idx) : ∀ (m i : Nat), rs.length - i = m → i ≤ rs.length → ∀ ver G, Up H G →
  hget G idx = some (.row ver 1 false (((rs.take i).map pieceR).map V.str)) →
  regex_set_l1 H.length (.rs idx ver 1 0 i) (.vs (rs.map encR)) (.int .i64 rs.length) (.int .i64 i) G = some (.ret (.str ([91] ++ commas true (rs.map pieceR) ++ [93])), H)
 | m, i, hm, hi, ver, G, hU, hg => by
  have hlen := commas_len (l := rs.map pieceR) (fun x hx => by
   obtain ⟨y, hy, rfl⟩ := List.mem_map.1 hx
   exact piece_len (hr y hy)) true
  rw [List.length_map] at hlen
  rw [regex_set_l1_eq]
  by_cases h : i < rs.length
  ·have h' : (i : Int) < (rs.length : Int) := by omega
   obtain ⟨m, rfl⟩ : ∃ j, m = j + 1 := ⟨m - 1, by omega⟩
   have hx := hr rs[i] (List.getElem_mem h)
   obtain ⟨t, u, ht, hu, lt, lu⟩ := set_step hx
   have w1 : IntKind.i64.wrap ((i : Int) + 1) = ((i + 1 : Nat) : Int) := by rw [wrap_i64 (by omega) (by omega)]; omega
   have i1 := fun H => i7_Itoa hx.1 H
   have i2 := fun H => i7_Itoa hx.2 H
   rw [ht] at i1
   rw [hu] at i2
   have c1 : oBin .add 6 (.str t) (.str [45]) = some (.str (t ++ [45])) := oBin_cat _ _ _ (by simp; omega)
   have c2 : oBin .add 6 (.str (t ++ [45])) (.str u) = some (.str (t ++ [45] ++ u)) := oBin_cat _ _ _ (by simp; omega)
   have hlt := hget_lt hg
   have hrl : (((rs.take i).map pieceR).map V.str).length = i * 1 := by simp; omega
   have hap := oAppend_row1 (base := H.length) (by_ := 16) (x := .str (t ++ [45] ++ u)) (H := .var (encR rs[i]).cells :: G) (i := idx) (len := i) ((Qck hlt).trans hg) hrl rfl rfl (by omega) (.inl hidx) (by simp [roomOk]; omega)
   have hp : pieceR rs[i] = t ++ [45] ++ u := by unfold pieceR; rw [ht, hu]
   have e1 : ((rs.take i).map pieceR).map V.str ++ (V.str (t ++ [45] ++ u)).cells = ((rs.take (i + 1)).map pieceR).map V.str := by
    rw [List.take_succ_eq_append_getElem h, List.map_append, List.map_append, ← hp]; rfl
   rw [e1] at hap
   have ih := set_l hr hn hidx m (i + 1) (by omega) (by omega) (ver + 1) (hset (.var (encR rs[i]).cells :: G) idx (.row (ver + 1) 1 false (((rs.take (i + 1)).map pieceR).map V.str))) ((hU.cons _).set hidx _) (Qcl (by simp; omega))
   have hc : (encR rs[i]).cells = [.int .i64 rs[i].1, .int .i64 rs[i].2] := rfl
   rw [hc] at hap ih
   have ix := idxR h .i64
   rw [hc] at ix
   simp (maxDischargeDepth := 9) only [Qah, Qag, Qab, Qbd, Qhd, Qgm, Qet, Qdx, Qef, Qcz, Qfh, Qhj, Qan, Qgo, Qgn, Qgs, Qdi, Qde, Qdd, Qdc, Qhh, Qhf, Qcj, Qcn, Qfv, Qhi, Qfg, decide_true, if_true, List.drop_zero, List.drop_succ_cons, List.length_cons, List.length_nil, Nat.add_zero, Nat.zero_add, Bool.and_true, List.append_nil, List.nil_append, List.cons_append, Nat.reduceAdd, oLoad_ptr, oStore_ptr, List.drop_nil, le_s, Nat.le_refl, Nat.zero_le, or_true, and_true, and_self, Nat.max_self, List.take_zero, List.take_succ_cons, h', ix, i1, i2, c1, c2, w1]
   rw [hap]
   simp (maxDischargeDepth := 9) only [Qag, w1]
   exact ih
  ·have h' : ¬ (i : Int) < (rs.length : Int) := by omega
   obtain rfl : i = rs.length := by omega
   rw [List.take_of_length_le (Nat.le_refl _)] at hg
   have hj := i7_Join_row (sep := [44]) (by simp; omega) (by rw [← commas_join]; omega) hg
   rw [← commas_join] at hj
   rw [List.length_map] at hj
   generalize commas true (rs.map pieceR) = q at *
   have c1 : oBin .add 6 (.str [91]) (.str q) = some (.str ([91] ++ q)) := oBin_cat _ _ _ (by simp; omega)
   have c2 : oBin .add 6 (.str ([91] ++ q)) (.str [93]) = some (.str ([91] ++ q ++ [93])) := oBin_cat _ _ _ (by simp; omega)
   have hT := hU.trunc
   simp only [List.cons_append, List.nil_append] at c1 c2
   simp (maxDischargeDepth := 9) only [Qah, Qag, Qab, Qbc, Qet, Qdx, Qef, Qgi, Qan, Qgo, Qgn, Qgs, Qhh, Qhf, Qcj, Qcn, Qfv, decide_false, List.length_cons, List.length_nil, Nat.add_zero, Nat.zero_add, Bool.and_true, List.nil_append, List.cons_append, Nat.reduceAdd, oLoad_ptr, oStore_ptr, Nat.le_refl, and_true, and_self, h', hj, c1, c2, hT]
theorem p7_set {s : S4} (hs : s.ok) (H : Heap) : E n_regex_set [encS s] H = some (.ret (.str (setTxt s)), H) := by
 rw [regex_set_E, regex_set_eq]
 have hr := fun H => i7_Ranges hs H
 have hm := s.rs_mem
 have hn := s.rs_len
 unfold setTxt
 generalize s.rs = rs at *
 cases rs with
 | nil =>
  have j := fun H => i7_Join_nil (sep := [44]) H
  have c1 : oBin .add 6 (.str [91]) (.str []) = some (.str [91]) := oBin_cat _ _ _ (by simp)
  have c2 : oBin .add 6 (.str [91]) (.str [93]) = some (.str [91, 93]) := oBin_cat _ _ _ (by simp)
  simp (maxDischargeDepth := 9) only [Qah, Qag, Qab, Qfc, Qcz, Qan, Qgo, Qgn, Qgs, Qam, Qcj, Qfv, Qhi, List.drop_zero, List.length_cons, List.length_nil, Nat.zero_add, Bool.and_true, List.nil_append, List.cons_append, Nat.reduceAdd, oLoad_ptr, Nat.le_refl, List.take_zero, List.take_succ_cons, hr, List.map_nil]
  rw [regex_set_l1_eq]
  simp (maxDischargeDepth := 9) only [Qah, Qag, Qab, Qbc, Qet, Qdx, Qef, Qcx, Qgi, Qan, Qgo, Qgn, Qgs, Qhh, Qhf, Qcr, Qcj, Qcn, Qfv, decide_false, List.length_cons, List.length_nil, Nat.add_zero, Nat.zero_add, Bool.and_true, List.nil_append, Nat.reduceAdd, Int.reduceAdd, oLoad_ptr, oStore_ptr, le_s, Nat.le_refl, true_or, and_true, and_self, Int.lt_irrefl, j, c1, c2, commas]
 | cons x rs =>
  have hx := hm x List.mem_cons_self
  obtain ⟨t, u, ht, hu, lt, lu⟩ := set_step hx
  have i1 := fun H => i7_Itoa hx.1 H
  have i2 := fun H => i7_Itoa hx.2 H
  rw [ht] at i1
  rw [hu] at i2
  have c1 : oBin .add 6 (.str t) (.str [45]) = some (.str (t ++ [45])) := oBin_cat _ _ _ (by simp; omega)
  have c2 : oBin .add 6 (.str (t ++ [45])) (.str u) = some (.str (t ++ [45] ++ u)) := oBin_cat _ _ _ (by simp; omega)
  have hp : pieceR x = t ++ [45] ++ u := by unfold pieceR; rw [ht, hu]
  have ix := idxR (l := x :: rs) (j := 0) (by simp) .i64
  have hc : (encR x).cells = [.int .i64 x.1, .int .i64 x.2] := rfl
  simp only [List.getElem_cons_zero, hc, Qam] at ix
  have hap := fun G : Heap => oAppend_nil1 (base := H.length) (sz := 1) (by_ := 16) (ag := false) (x := .str (t ++ [45] ++ u)) (H := G) rfl rfl (by omega) (by decide)
  have w1 : IntKind.i64.wrap 1 = 1 := by decide
  have h0 : (0 : Int) < ((rs.length + 1 : Nat) : Int) := by omega
  have ih := set_l (rs := x :: rs) hm hn (H := H) (idx := H.length + 2) (by omega) rs.length 1 (by simp) (by simp) 0 (.row 0 1 false [.str (t ++ [45] ++ u)] :: .var [.int .i64 x.1, .int .i64 x.2] :: .var s.cs :: H) (((Up.refl H).cons _).cons _ |>.cons _) (by simp [hp])
  simp only [Qam] at ih
  simp (maxDischargeDepth := 9) only [Qah, Qag, Qab, Qfc, Qcz, Qan, Qgo, Qgn, Qgs, Qcj, Qfv, Qhi, List.drop_zero, List.length_cons, List.length_nil, Nat.zero_add, Bool.and_true, List.nil_append, List.cons_append, Nat.reduceAdd, oLoad_ptr, Nat.le_refl, List.take_zero, List.take_succ_cons, hr]
  rw [regex_set_l1_eq]
  simp (maxDischargeDepth := 9) only [Qah, Qag, Qab, Qbd, Qhd, Qgm, Qet, Qdx, Qef, Qcz, Qfh, Qhj, Qba, Qan, Qgo, Qgn, Qgs, Qhh, Qhf, Qcj, Qcn, Qfv, Qhi, Qfg, decide_true, if_true, List.drop_zero, List.drop_succ_cons, List.length_cons, List.length_nil, Nat.add_zero, Nat.zero_add, Bool.and_true, List.append_nil, Nat.reduceAdd, Int.reduceAdd, oLoad_ptr, oStore_ptr, List.drop_nil, le_s, Nat.le_refl, true_or, and_true, and_self, List.take_zero, List.take_succ_cons, List.length_map, h0, ix, i1, i2, c1, c2, w1, hap]
  exact ih
end Go.Proofs.YtjnkigaiogjfcaaDoor
end

section
/- Ranges and texts: the document's; texts: the program's. -/
namespace Go.Proofs.YtjnkigaiogjfcaaDoor
open Go Go.Ev Go.X7
set_option linter.unusedVariables false
set_option linter.unusedSimpArgs false
set_option maxRecDepth 20000

theorem wrap_w {b : Int} (h : 0 ≤ b ∧ b ≤ 255) : Go.RowKit.wrap64 (b - 1) = b - 1 ∧ IntKind.i64.wrap (b - 1) = b - 1 := ⟨by unfold Go.RowKit.wrap64; omega, wrap_i64 (by omega) (by omega)⟩
/-- The ranges of the first k bytes. -/
def S4.rsTo (s : S4) (k : Nat) : List (Int × Int) := rgs ((S4.upto s k).map fun i : Nat => (i : Int))
theorem S4.rsTo_succ (s : S4) (k : Nat) : S4.rsTo s (k + 1) = if s.has k then rgStep (S4.rsTo s k) (k : Int) else S4.rsTo s k := by
 unfold S4.rsTo
 rw [S4.upto_succ]
 cases h : s.has k <;> simp [rgs]
theorem S4.rsTo_len (s : S4) (k : Nat) : (S4.rsTo s k).length ≤ k := by
 have := rgs_len' ((S4.upto s k).map fun i : Nat => (i : Int)) []
 have h := S4.upto_len s k
 unfold S4.rsTo rgs
 simp at this ⊢
 omega
theorem cellsR_take {l : List (Int × Int)} {x : Int × Int} : (cellsF encR (l ++ [x])).drop (l.length * 2) = [.int .i64 x.1, .int .i64 x.2] := by
 rw [cellsF_append, List.drop_append_of_le_length (by rw [encR_ok.cellsF_length]; exact Nat.le_refl _), List.drop_of_length_le (by rw [encR_ok.cellsF_length]; exact Nat.le_refl _)]
 rfl
theorem r1_Ranges_l {s : S4} (hs : s.ok) {H : Heap} : ∀ (m k : Nat), 256 - k = m → k ≤ 256 → ∀ ver,
  ref01_Ranges_l1 H.length (.ptr H.length 0 0) (if S4.rsTo s k = [] then .nils else .rs (H.length + 1) ver 2 0 (S4.rsTo s k).length) (.int .i64 (k : Int)) (if S4.rsTo s k = [] then .var s.cs :: H else .row ver 2 true (cellsF encR (S4.rsTo s k)) :: .var s.cs :: H) = some (.ret (.vs (s.rs.map encR)), H)
 | m, k, hm, hk, ver => by
  rw [ref01_Ranges_l1_eq]
  by_cases h : k < 256
  ·have h' : (k : Int) < 256 := by omega
   obtain ⟨m, rfl⟩ : ∃ j, m = j + 1 := ⟨m - 1, by omega⟩
   have w1 := wk h
   have j2 : ∀ c G, ref01_Ranges_j2 H.length (.ptr H.length 0 0) c (.int .i64 (k : Int)) G = ref01_Ranges_l1 H.length (.ptr H.length 0 0) c (.int .i64 ((k + 1 : Nat) : Int)) G := fun c G => by
    rw [ref01_Ranges_j2_eq]; simp (maxDischargeDepth := 9) only [Qah, Qdx, w1]
   have ihv := fun v => r1_Ranges_l hs (H := H) m (k + 1) (by omega) (by omega) v
   rw [S4.rsTo_succ] at ihv
   have hl := S4.rsTo_len s k
   generalize S4.rsTo s k = l at *
   have hH := fun H => r1_Has hs h H
   cases hx : s.has k with
   | false =>
    simp only [hx, Bool.false_eq_true, if_false] at ihv
    have ih := ihv ver
    rw [hx] at hH
    cases l with
    | nil =>
     rw [if_pos rfl, if_pos rfl] at ih ⊢
     simp (maxDischargeDepth := 9) only [Qah, Qab, Qbd, Qfm, Qfu, Qfa, Qel, Qef, Qed, Qcx, Qcz, Qcr, Qcj, Qhi, Qem, Qgg, decide_true, Bool.not_false, List.drop_zero, List.length_cons, List.length_nil, Nat.zero_add, Nat.reduceAdd, oLoad_ptr, Nat.le_refl, List.take_zero, List.take_succ_cons, h', hH, j2, ih]
    | cons y l =>
     rw [if_neg (by simp), if_neg (by simp)] at ih ⊢
     simp (maxDischargeDepth := 9) only [Qah, Qab, Qbd, Qfm, Qfu, Qfb, Qel, Qef, Qed, Qcz, Qck, Qcj, Qhi, Qem, Qgh, Qbe, decide_true, Bool.not_false, List.drop_zero, List.length_cons, List.length_nil, Nat.zero_add, Nat.reduceAdd, oLoad_ptr, Nat.le_refl, Nat.lt_add_one, List.take_zero, List.take_succ_cons, h', hH, j2]
     simp only [List.length_cons] at ih
     exact ih
   | true =>
    simp only [hx, if_true] at ihv
    rw [hx] at hH
    have hb : 0 ≤ (k : Int) ∧ (k : Int) ≤ 255 := by omega
    obtain ⟨e1, e2⟩ := wrap_w hb
    have bb : oBuild [.int .i64 0, .int .i64 0] [(0, 1), (1, 1)] [(0, .int .i64 (k : Int)), (1, .int .i64 (k : Int))] = some (encR ((k : Int), (k : Int))) := by simp [splice, encR]
    have lt := fun z => encR_ok.lit z ((k : Int), (k : Int))
    rcases List.eq_nil_or_concat l with rfl | ⟨l, y, rfl⟩
    ·have ih := ihv 0
     have hs0 : rgStep [] (k : Int) = [((k : Int), (k : Int))] := rfl
     rw [hs0, if_neg (by simp), if_neg (by simp)] at ih
     rw [if_pos rfl, if_pos rfl]
     have ap := fun G : Heap => encR_ok.append_nil (base := H.length) (by_ := 16) (H := G) (a := ((k : Int), (k : Int))) (by decide)
     have ngt : ¬ (0 : Int) < 0 := by omega
     simp (maxDischargeDepth := 9) only [Qah, Qag, Qab, Qbd, Qbc, Qcf, Qfm, Qfq, Qfu, Qfa, Qel, Qef, Qed, Qcx, Qcz, Qcr, Qcj, Qhi, Qgg, decide_true, decide_false, Bool.not_true, List.drop_zero, List.length_cons, List.length_nil, Nat.zero_add, Nat.reduceAdd, oLoad_ptr, Nat.le_refl, List.take_zero, List.take_succ_cons, h', hH, j2, bb, lt, ap, ngt]
     exact ih
    ·rw [List.concat_eq_append] at *
     rw [if_neg (by simp), if_neg (by simp)]
     have hgt : (0 : Int) < (((l ++ [y]).length : Nat) : Int) := by simp
     have w2 : IntKind.i64.wrap ((((l ++ [y]).length : Nat) : Int) - 1) = ((l.length : Nat) : Int) := by rw [wrap_i64 (by omega) (by omega)]; simp
     have ix := oIndexPtr_rs (i := H.length + 1) (ver := ver) (sz := 2) (off := 0) (n := (l ++ [y]).length) (k := .i64) (j := l.length) (by simp)
     have dr := cellsR_take (l := l) (x := y)
     have dr1 : List.drop (l.length * 2 + 1) (cellsF encR (l ++ [y])) = [.int .i64 y.2] := by rw [← List.drop_drop, dr]; rfl
     rw [Nat.zero_add] at ix
     by_cases hy : y.2 = (k : Int) - 1
     ·have hst : rgStep (l ++ [y]) (k : Int) = l ++ [(y.1, (k : Int))] := by simp [rgStep, e1, hy]
      have ih := ihv ver
      rw [hst, if_neg (by simp), if_neg (by simp)] at ih
      have sp : splice (cellsF encR (l ++ [y])) (l.length * 2 + 1) [.int .i64 (k : Int)] = cellsF encR (l ++ [(y.1, (k : Int))]) := by
       rw [cellsF_append, cellsF_append, cellsF_one, cellsF_one]
       have : cellsF encR l ++ (encR y).cells = (cellsF encR l ++ [.int .i64 y.1]) ++ .int .i64 y.2 :: [] := by simp [encR]
       rw [this, splice_at (by simp [encR_ok.cellsF_length])]
       simp [encR]
      have hcl : (cellsF encR (l ++ [y])).length = l.length * 2 + 2 := by rw [encR_ok.cellsF_length]; simp; omega
      have hle : l.length * 2 + 1 + 1 ≤ l.length * 2 + 2 := by omega
      simp (maxDischargeDepth := 9) only [Qah, Qag, Qab, Qbd, Qbc, Qci, Qfm, Qfr, Qet, Qfu, Qfb, Qel, Qeb, Qef, Qed, Qcz, Qcy, Qhj, Qar, Qgo, Qgn, Qgs, Qdi, Qhg, Qck, Qcj, Qcn, Qhi, Qem, Qgh, Qbe, decide_true, Bool.not_true, if_true, List.drop_zero, List.length_cons, List.length_nil, Nat.zero_add, Bool.and_true, Nat.reduceAdd, oLoad_ptr, oStore_ptr, le_s, Nat.le_refl, Nat.lt_add_one, Nat.zero_le, or_true, and_self, List.take_zero, List.take_succ_cons, h', hH, j2, hgt, w2, ix, dr1, e2, hy, sp, hcl, hle]
      simp only [List.length_append, List.length_cons, List.length_nil] at ih
      simp only [List.length_append, List.length_cons, List.length_nil]
      exact ih
     ·have hst : rgStep (l ++ [y]) (k : Int) = l ++ [y] ++ [((k : Int), (k : Int))] := by simp [rgStep, e1, hy]
      have ih := ihv (ver + 1)
      rw [hst, if_neg (by simp), if_neg (by simp)] at ih
      have ap := fun G hg => encR_ok.append (base := H.length) (by_ := 16) (i := H.length + 1) (ver := ver) (H := G) (l := l ++ [y]) (a := ((k : Int), (k : Int))) (n := (l ++ [y]).length) hg rfl (by simp [roomOk] at hl ⊢; omega)
      simp (maxDischargeDepth := 9) only [Qah, Qag, Qab, Qbd, Qbc, Qci, Qfm, Qfr, Qet, Qfu, Qfb, Qel, Qeb, Qef, Qed, Qcz, Qcy, Qhj, Qar, Qgo, Qgn, Qgs, Qdi, Qhg, Qck, Qcj, Qcn, Qhi, Qgh, Qbe, decide_true, decide_false, Bool.not_true, List.drop_zero, List.length_cons, List.length_nil, Nat.zero_add, Bool.and_true, Nat.reduceAdd, oLoad_ptr, oStore_ptr, le_s, Nat.le_refl, Nat.lt_add_one, Nat.zero_le, or_true, true_and, List.take_zero, List.take_succ_cons, h', hH, j2, hgt, w2, ix, dr1, e2, hy, bb, lt, ap]
      rw [List.length_append] at ih
      exact ih
  ·have h' : ¬ (k : Int) < 256 := by omega
   have e : s.rs = S4.rsTo s k := by rw [show k = 256 by omega]; rfl
   rw [e]
   generalize S4.rsTo s k = l at *
   cases l with
   | nil =>
    rw [if_pos rfl, if_pos rfl]
    simp (maxDischargeDepth := 9) only [Qah, Qbc, Qfm, Qfa, Qel, Qef, Qed, Qcx, Qcz, Qcr, Qcj, Qhi, Qem, Qgg, decide_false, List.drop_zero, List.length_cons, List.length_nil, Nat.zero_add, Nat.reduceAdd, oLoad_ptr, Nat.le_refl, List.take_zero, List.take_succ_cons, h', List.map_nil]
   | cons y l =>
    rw [if_neg (by simp), if_neg (by simp)]
    have hf := encR_ok.frz_row (H := .row ver 2 true (cellsF encR (y :: l)) :: .var s.cs :: H) (base := H.length) (n := 10) (i := H.length + 1) (ver := ver) (l := y :: l) (m := (y :: l).length) (by simp) (by omega) rfl
    simp (maxDischargeDepth := 9) only [List.length_cons, Nat.reduceAdd, List.map_cons] at hf
    simp (maxDischargeDepth := 9) only [Qah, Qbc, Qfm, Qfb, Qel, Qef, Qed, Qcx, Qcz, Qdt, Qcr, Qck, Qcj, Qhi, Qem, Qgh, Qga, Qbe, decide_false, if_true, List.drop_zero, List.length_cons, List.length_nil, Nat.zero_add, Nat.reduceAdd, oLoad_ptr, le_s, Nat.le_refl, Nat.lt_add_one, Nat.zero_le, List.take_zero, List.take_succ_cons, h', hf, List.map_cons]
theorem r1_Ranges {s : S4} (hs : s.ok) (H : Heap) : E n_ref01_Ranges [encS s] H = some (.ret (.vs (s.rs.map encR)), H) := by
 rw [ref01_Ranges_E, ref01_Ranges_eq]
 have k := r1_Ranges_l hs (H := H) 256 0 rfl (by omega) 0
 have e : S4.rsTo s 0 = [] := rfl
 rw [e, if_pos rfl, if_pos rfl] at k
 simp only [Qam] at k
 simp (maxDischargeDepth := 9) only [Qag, Qan, Qgo, Qgn, Qgs, Qfv, Bool.and_true, k]
theorem idxX {ks : List X} {j : Nat} (h : j < ks.length) (k : IntKind) : oIndexPtr 6 (.vs (encXs ks)) (.int k (j : Int)) = some (.fptr (encX ks[j]).cells) :=
 oIndexPtr_vs (y := encX ks[j]) (by rw [encXs_map]; simp [h]) (by simp)
theorem lenX (ks : List X) : oLenSl (.vs (encXs ks)) = some (.int .i64 ks.length) := by rw [encXs_map]; simp
theorem takeX (x : X) : takeCells true 6 (encX x).cells = some (encX x) := by simp [takeCells]
theorem encX_mk (k : Int) (s : S4) (ks : List X) : encX (.mk k s ks) = .agg [.int .i64 k, .int .u64 s.a, .int .u64 s.b, .int .u64 s.c, .int .u64 s.d, .vs (encXs ks)] := rfl
/-- A set's text. -/
theorem r7_set_l {rs : List (Int × Int)} (hr : ∀ x ∈ rs, (0 ≤ x.1 ∧ x.1 ≤ 255) ∧ (0 ≤ x.2 ∧ x.2 ≤ 255)) (hn : rs.length ≤ 256) {H G : Heap} (hU : Up H G) : ∀ (m i : Nat), rs.length - i = m → i ≤ rs.length → ∀ acc : List UInt8, acc.length ≤ 8 * i →
  ref07_Text_l1 H.length (.str acc) (.vs (rs.map encR)) (.int .i64 i) G = some (.ret (.str ([91] ++ (acc ++ commas (i == 0) ((rs.drop i).map pieceR)) ++ [93])), H)
 | m, i, hm, hi, acc, hacc => by
  rw [ref07_Text_l1_eq]
  by_cases h : i < rs.length
  ·have h' : (i : Int) < (rs.length : Int) := by omega
   obtain ⟨m, rfl⟩ : ∃ j, m = j + 1 := ⟨m - 1, by omega⟩
   have hx := hr rs[i] (List.getElem_mem h)
   obtain ⟨t, u, ht, hu, lt, lu⟩ := set_step hx
   have w1 : IntKind.i64.wrap ((i : Int) + 1) = ((i + 1 : Nat) : Int) := by rw [wrap_i64 (by omega) (by omega)]; omega
   have i1 := fun H => r7_itoa hx.1 H
   have i2 := fun H => r7_itoa hx.2 H
   rw [ht] at i1
   rw [hu] at i2
   have hp : pieceR rs[i] = t ++ [45] ++ u := by unfold pieceR; rw [ht, hu]
   have hc : (encR rs[i]).cells = [.int .i64 rs[i].1, .int .i64 rs[i].2] := rfl
   have ix := idxR h .i64
   rw [hc] at ix
   rw [List.drop_eq_getElem_cons h, List.map_cons, commas, hp]
   have j2 : ∀ a : List UInt8, a.length ≤ 8 * i + 1 → ref07_Text_j2 H.length (.str a) (.vs (rs.map encR)) (.int .i64 i) G = some (.ret (.str ([91] ++ (a ++ (t ++ [45] ++ u) ++ commas false ((rs.drop (i + 1)).map pieceR)) ++ [93])), H) := fun a ha => by
    have ih := r7_set_l hr hn hU m (i + 1) (by omega) (by omega) (a ++ (t ++ [45] ++ u)) (by simp; omega)
    have c1 : oBin .add 6 (.str a) (.str t) = some (.str (a ++ t)) := oBin_cat _ _ _ (by omega)
    have c2 : oBin .add 6 (.str (a ++ t)) (.str [45]) = some (.str (a ++ t ++ [45])) := oBin_cat _ _ _ (by simp; omega)
    have c3 : oBin .add 6 (.str (a ++ t ++ [45])) (.str u) = some (.str (a ++ (t ++ [45] ++ u))) := by rw [oBin_cat _ _ _ (by simp; omega)]; simp
    have e0 : (i + 1 == 0) = false := by simp
    rw [e0] at ih
    rw [ref07_Text_j2_eq]
    simp (maxDischargeDepth := 9) only [Qah, Qab, Qhd, Qgm, Qfh, Qhj, List.drop_zero, List.drop_succ_cons, List.length_cons, List.length_nil, Nat.zero_add, List.nil_append, List.cons_append, Nat.reduceAdd, le_s, Nat.le_refl, oFieldPtr_fptr, ix, i1, i2, c1, c2, c3]
    rw [ref07_Text_j3_eq]
    simp (maxDischargeDepth := 9) only [Qah, Qdx, w1]
    exact ih
   by_cases h0 : i = 0
   ·subst h0
    have q := j2 acc (by omega)
    simp only [Qam] at q
    have h0' : (0 : Int) < (rs.length : Int) := by omega
    simp (maxDischargeDepth := 9) only [Qah, Qbd, Qbc, Qfc, Qef, Qed, Qam, decide_true, decide_false, if_true, Nat.zero_add, List.nil_append, List.cons_append, beq_self_eq_true, List.length_map, h0', Qam, Int.lt_irrefl, q]
    simp
   ·have hp0 : (0 : Int) < (i : Int) := by omega
    have c1 : oBin .add 6 (.str acc) (.str [44]) = some (.str (acc ++ [44])) := oBin_cat _ _ _ (by simp; omega)
    have q := j2 (acc ++ [44]) (by simp; omega)
    have e0 : (i == 0) = false := by simp [h0]
    simp (maxDischargeDepth := 9) only [Qah, Qbd, Qfc, Qef, Qed, decide_true, if_false, Bool.false_eq_true, List.nil_append, List.cons_append, List.length_map, h', hp0, c1, e0]
    rw [q]
    simp
  ·have h' : ¬ (i : Int) < (rs.length : Int) := by omega
   rw [List.drop_of_length_le (by omega)]
   have c1 : oBin .add 6 (.str [91]) (.str acc) = some (.str ([91] ++ acc)) := oBin_cat _ _ _ (by simp; omega)
   have c2 : oBin .add 6 (.str ([91] ++ acc)) (.str [93]) = some (.str ([91] ++ acc ++ [93])) := oBin_cat _ _ _ (by simp; omega)
   have hT := hU.trunc
   simp only [List.cons_append, List.nil_append] at c1 c2
   simp (maxDischargeDepth := 9) only [Qah, Qbc, Qfc, Qef, Qed, Qgi, decide_false, List.append_nil, List.nil_append, List.cons_append, List.length_map, h', c1, c2, hT, List.map_nil, commas]
/-- What the kids of a star are, one behind the other. -/
theorem r7_star_l {k : Int} {s : S4} {ks : List X} (hk : ∀ x ∈ ks, ∀ H, E n_ref07_Text [encX x] H = some (.ret (.str (txt x)), H)) (hn : sizes ks ≤ 1000000) {H : Heap} : ∀ (m i : Nat), ks.length - i = m → i ≤ ks.length → ∀ acc : List UInt8, acc.length + (txts [] false (ks.drop i)).length ≤ 4000000000 →
  ref07_Text_l4 H.length (.ptr H.length 0 0) (.str acc) (.int .i64 i) (.var (encX (.mk k s ks)).cells :: H) = some (.ret (.str (acc ++ txts [] false (ks.drop i) ++ [42])), H)
 | m, i, hm, hi, acc, hacc => by
  rw [ref07_Text_l4_eq]
  have hls := len_sizes ks
  by_cases h : i < ks.length
  ·have h' : (i : Int) < (ks.length : Int) := by omega
   obtain ⟨m, rfl⟩ : ∃ j, m = j + 1 := ⟨m - 1, by omega⟩
   have w1 : IntKind.i64.wrap ((i : Int) + 1) = ((i + 1 : Nat) : Int) := by rw [wrap_i64 (by omega) (by omega)]; omega
   rw [List.drop_eq_getElem_cons h] at hacc ⊢
   simp only [txts, Bool.false_eq_true, if_false, List.nil_append, List.length_append] at hacc ⊢
   have ht := hk ks[i] (List.getElem_mem h)
   have ih := r7_star_l (k := k) (s := s) hk hn (H := H) m (i + 1) (by omega) (by omega) (acc ++ txt ks[i]) (by simp; omega)
   have c1 : oBin .add 6 (.str acc) (.str (txt ks[i])) = some (.str (acc ++ txt ks[i])) := oBin_cat _ _ _ (by omega)
   have ix := idxX h .i64
   rw [encX_mk] at ih ⊢
   simp (maxDischargeDepth := 9) only [Qah, Qab, Qbd, Qet, Qfc, Qdx, Qef, Qcz, Qfh, Qhj, Qan, Qcj, Qhi, Qbp, Qbg, Qbf, Qbo, decide_true, List.drop_zero, List.drop_succ_cons, Nat.zero_add, oLoad_ptr, Nat.le_refl, lenX, h', ix, takeX, ht, c1, w1] at ih ⊢
   rw [ih]
   simp
  ·have h' : ¬ (i : Int) < (ks.length : Int) := by omega
   rw [List.drop_of_length_le (by omega)] at hacc ⊢
   simp only [txts, List.length_nil] at hacc
   have c1 : oBin .add 6 (.str acc) (.str [42]) = some (.str (acc ++ [42])) := oBin_cat _ _ _ (by simp; omega)
   rw [encX_mk]
   simp (maxDischargeDepth := 9) only [Qah, Qbc, Qet, Qfc, Qdx, Qef, Qcx, Qcz, Qhj, Qgi, Qan, Qcr, Qcj, Qbp, decide_false, List.drop_zero, List.drop_succ_cons, Nat.zero_add, List.append_nil, oLoad_ptr, Nat.le_refl, lenX, h', c1, txts]
end Go.Proofs.YtjnkigaiogjfcaaDoor
end

section
/- Texts: the document's, the program's. -/
namespace Go.Proofs.YtjnkigaiogjfcaaDoor
open Go Go.Ev Go.X7
set_option linter.unusedVariables false
set_option linter.unusedSimpArgs false
set_option maxRecDepth 20000

/-- What the kids of another kind are. -/
theorem r7_all_l {k : Int} (k5 : k ≠ 5) {s : S4} {ks : List X} (hk : ∀ x ∈ ks, ∀ H, E n_ref07_Text [encX x] H = some (.ret (.str (txt x)), H)) (hn : sizes ks ≤ 1000000) {H : Heap} : ∀ (m i : Nat), ks.length - i = m → i ≤ ks.length → ∀ acc : List UInt8, acc.length + (txts (txB k).1 (i == 0) (ks.drop i)).length ≤ 4000000000 →
  ref07_Text_l5 H.length (.ptr H.length 0 0) (.str acc) (.int .i64 i) (.var (encX (.mk k s ks)).cells :: H) = some (.ret (.str ((txB k).2.1 ++ (acc ++ txts (txB k).1 (i == 0) (ks.drop i)) ++ (txB k).2.2)), H)
 | m, i, hm, hi, acc, hacc => by
  rw [ref07_Text_l5_eq]
  have hls := len_sizes ks
  by_cases h : i < ks.length
  ·have h' : (i : Int) < (ks.length : Int) := by omega
   obtain ⟨m, rfl⟩ : ∃ j, m = j + 1 := ⟨m - 1, by omega⟩
   have w1 : IntKind.i64.wrap ((i : Int) + 1) = ((i + 1 : Nat) : Int) := by rw [wrap_i64 (by omega) (by omega)]; omega
   have ht := hk ks[i] (List.getElem_mem h)
   have ix := idxX h .i64
   rw [List.drop_eq_getElem_cons h] at hacc ⊢
   simp only [txts, List.length_append] at hacc ⊢
   have ihv := fun a ha => r7_all_l k5 (s := s) hk hn (H := H) m (i + 1) (by omega) (by omega) a ha
   rw [show (i + 1 == 0) = false by simp] at ihv
   have j6 : ∀ a : List UInt8, a.length + (txt ks[i]).length + (txts (txB k).1 false (ks.drop (i + 1))).length ≤ 4000000000 → ref07_Text_j6 H.length (.ptr H.length 0 0) (.str a) (.int .i64 i) (.var (encX (.mk k s ks)).cells :: H) = some (.ret (.str ((txB k).2.1 ++ (a ++ txt ks[i] ++ txts (txB k).1 false (ks.drop (i + 1))) ++ (txB k).2.2)), H) := fun a ha => by
    have c1 : oBin .add 6 (.str a) (.str (txt ks[i])) = some (.str (a ++ txt ks[i])) := oBin_cat _ _ _ (by omega)
    have ih := ihv (a ++ txt ks[i]) (by simp; omega)
    rw [ref07_Text_j6_eq]
    rw [encX_mk] at ih ⊢
    simp (maxDischargeDepth := 9) only [Qah, Qab, Qet, Qcz, Qfh, Qhj, Qan, Qcj, Qhi, Qbg, Qbf, Qbo, List.drop_zero, List.drop_succ_cons, Nat.zero_add, oLoad_ptr, Nat.le_refl, ix, takeX, ht, c1] at ih ⊢
    rw [ref07_Text_j7_eq]
    simp (maxDischargeDepth := 9) only [Qah, Qdx, w1]
    rw [ih]
   by_cases h0 : i = 0
   ·subst h0
    have q := j6 acc (by simp only [beq_self_eq_true, if_true, List.length_nil] at hacc; omega)
    have h0' : (0 : Int) < (ks.length : Int) := by omega
    rw [encX_mk] at q ⊢
    simp only [Qam, Qan, Qam, Nat.zero_add] at q
    simp (maxDischargeDepth := 9) only [Qah, Qbd, Qbc, Qcf, Qfq, Qet, Qfc, Qeb, Qef, Qed, Qcz, Qhj, Qan, Qam, Qcj, Qbp, decide_true, decide_false, if_true, List.drop_zero, List.drop_succ_cons, Nat.add_zero, Nat.zero_add, List.nil_append, beq_self_eq_true, oLoad_ptr, Qam, h0', Int.lt_irrefl, q, List.append_assoc]
   ·have hp0 : (0 : Int) < (i : Int) := by omega
    have e0 : (i == 0) = false := by simp [h0]
    rw [e0] at hacc ⊢
    simp only [Bool.false_eq_true, if_false] at hacc ⊢
    by_cases h3 : k = 3
    ·subst h3
     have q := j6 acc (by omega)
     have e : (txB 3).1 = [] := rfl
     rw [encX_mk] at q ⊢
     simp (maxDischargeDepth := 9) only [Qan] at q
     simp (maxDischargeDepth := 9) only [Qah, Qbd, Qbc, Qci, Qfr, Qet, Qfc, Qeb, Qeh, Qef, Qed, Qcz, Qhj, Qan, Qcj, Qbp, decide_true, Bool.not_true, List.drop_zero, List.drop_succ_cons, Nat.add_zero, Nat.zero_add, List.nil_append, oLoad_ptr, h', hp0, q, e, List.append_assoc]
    ·have e : (txB k).1 = [124] := by simp [txB, k5, h3]
     rw [e] at hacc j6 ⊢
     have c1 : oBin .add 6 (.str acc) (.str [124]) = some (.str (acc ++ [124])) := oBin_cat _ _ _ (by simp at hacc ⊢; omega)
     have q := j6 (acc ++ [124]) (by simp at hacc ⊢; omega)
     rw [encX_mk] at q ⊢
     simp (maxDischargeDepth := 9) only [Qan] at q
     simp (maxDischargeDepth := 9) only [Qah, Qbd, Qbc, Qci, Qfr, Qet, Qfc, Qeb, Qeh, Qef, Qed, Qcz, Qhj, Qan, Qcj, Qbp, decide_true, decide_false, Bool.not_false, List.drop_zero, List.drop_succ_cons, Nat.add_zero, Nat.zero_add, List.nil_append, List.cons_append, oLoad_ptr, h', hp0, h3, c1, q]
     simp
  ·have h' : ¬ (i : Int) < (ks.length : Int) := by omega
   rw [List.drop_of_length_le (by omega)] at hacc ⊢
   simp only [txts, List.length_nil, Nat.add_zero, List.append_nil] at hacc ⊢
   rw [encX_mk]
   by_cases h3 : k = 3
   ·subst h3
    have c1 : oBin .add 6 (.str [40]) (.str acc) = some (.str ([40] ++ acc)) := oBin_cat _ _ _ (by simp; omega)
    have c2 : oBin .add 6 (.str ([40] ++ acc)) (.str [41]) = some (.str ([40] ++ acc ++ [41])) := oBin_cat _ _ _ (by simp; omega)
    simp only [List.cons_append, List.nil_append] at c1 c2
    simp (maxDischargeDepth := 9) only [Qah, Qbd, Qbc, Qet, Qfc, Qeb, Qef, Qed, Qcx, Qcz, Qhj, Qgi, Qan, Qcr, Qcj, Qbp, decide_true, decide_false, List.drop_zero, List.drop_succ_cons, Nat.add_zero, Nat.zero_add, oLoad_ptr, Nat.le_refl, h', c1, c2]
    rfl
   ·have c1 : oBin .add 6 (.str [123]) (.str acc) = some (.str ([123] ++ acc)) := oBin_cat _ _ _ (by simp; omega)
    have c2 : oBin .add 6 (.str ([123] ++ acc)) (.str [125]) = some (.str ([123] ++ acc ++ [125])) := oBin_cat _ _ _ (by simp; omega)
    have e : txB k = ([124], [123], [125]) := by simp [txB, k5, h3]
    simp only [List.cons_append, List.nil_append] at c1 c2
    simp (maxDischargeDepth := 9) only [Qah, Qbc, Qet, Qfc, Qeb, Qef, Qed, Qcx, Qcz, Qhj, Qgi, Qan, Qcr, Qcj, Qbp, decide_false, List.drop_zero, List.drop_succ_cons, Nat.add_zero, Nat.zero_add, List.nil_append, List.cons_append, oLoad_ptr, Nat.le_refl, h', h3, c1, c2, e]
theorem r7_Text : ∀ (n : Nat) (x : X), x.size ≤ n → n ≤ 1000000 → x.ok → ∀ H, E n_ref07_Text [encX x] H = some (.ret (.str (txt x)), H)
 | 0, x, h, _, _, _ => by have := size_pos x; omega
 | n + 1, .mk k s ks, h, hn, hok, H => by
  have hsz : sizes ks ≤ n := by simp only [X.size] at h; omega
  have hk : ∀ x ∈ ks, ∀ H, E n_ref07_Text [encX x] H = some (.ret (.str (txt x)), H) := fun x hx H => r7_Text n x (Nat.le_trans (size_mem hx) hsz) (by omega) (oks_iff.1 hok.2 x hx) H
  rw [ref07_Text_E, ref07_Text_eq]
  by_cases k0 : k = 0
  ·subst k0
   rw [encX_mk]
   simp (maxDischargeDepth := 9) only [Qah, Qag, Qbd, Qet, Qeb, Qcx, Qcz, Qhj, Qgi, Qan, Qgo, Qgn, Qgs, Qhc, Qcr, Qcj, Qfv, Qhi, decide_true, if_true, List.drop_zero, List.drop_succ_cons, List.length_cons, List.length_nil, Nat.add_zero, Nat.zero_add, Bool.and_true, Nat.reduceAdd, oLoad_ptr, le_s, Nat.le_refl, List.take_zero, List.take_succ_cons, txt]
  ·by_cases k1 : k = 1
   ·subst k1
    rw [encX_mk]
    simp (maxDischargeDepth := 9) only [Qah, Qag, Qbd, Qbc, Qet, Qeb, Qcx, Qcz, Qhj, Qgi, Qan, Qgo, Qgn, Qgs, Qhc, Qcr, Qcj, Qfv, Qhi, decide_true, decide_false, if_true, if_false, List.drop_zero, List.drop_succ_cons, List.length_cons, List.length_nil, Nat.add_zero, Nat.zero_add, Bool.and_true, Nat.reduceAdd, oLoad_ptr, le_s, Nat.le_refl, List.take_zero, List.take_succ_cons, txt, k0]
   ·by_cases k2 : k = 2
    ·subst k2
     have hr := fun H => r1_Ranges hok.1 H
     have l := r7_set_l (rs := s.rs) s.rs_mem s.rs_len (H := H) (G := .var (encX (.mk 2 s ks)).cells :: H) ((Up.refl H).cons _) s.rs.length 0 rfl (Nat.zero_le _) [] (by simp)
     rw [encX_mk] at l ⊢
     simp only [Qam, Qan, Qam, List.drop_zero, List.nil_append, List.cons_append, beq_self_eq_true] at l
     simp (maxDischargeDepth := 9) only [Qah, Qag, Qab, Qbd, Qbc, Qet, Qeb, Qcx, Qcz, Qhj, Qgi, Qan, Qgo, Qgn, Qgs, Qhc, Qcr, Qcj, Qfv, Qhi, decide_true, decide_false, if_true, if_false, List.drop_zero, List.drop_succ_cons, List.length_cons, List.length_nil, Nat.add_zero, Nat.zero_add, Bool.and_true, List.nil_append, List.cons_append, Nat.reduceAdd, oLoad_ptr, le_s, Nat.le_refl, List.take_zero, List.take_succ_cons, txt, k0, k1, hr, l, setTxt]
    ·by_cases k5 : k = 5
     ·subst k5
      have hb := txts_len [] (by simp) ks false
      have l := r7_star_l (k := 5) (s := s) hk (by omega) (H := H) ks.length 0 rfl (Nat.zero_le _) [] (by simp; omega)
      have e : txts [] false ks = txts [] true ks := by cases ks <;> simp [txts]
      rw [encX_mk] at l ⊢
      simp only [Qam, Qan, Qam, List.drop_zero, List.nil_append] at l
      simp (maxDischargeDepth := 9) only [Qah, Qag, Qbd, Qbc, Qet, Qeb, Qcx, Qcz, Qhj, Qgi, Qan, Qgo, Qgn, Qgs, Qhc, Qcr, Qcj, Qfv, Qhi, decide_true, decide_false, if_true, if_false, List.drop_zero, List.drop_succ_cons, List.length_cons, List.length_nil, Nat.add_zero, Nat.zero_add, Bool.and_true, List.nil_append, Nat.reduceAdd, oLoad_ptr, le_s, Nat.le_refl, List.take_zero, List.take_succ_cons, txt, k0, k1, k2, l, txB, e]
     ·have hb := txts_len (txB k).1 (txB_len k).1 ks true
      have l := r7_all_l k5 (s := s) hk (by omega) (H := H) ks.length 0 rfl (Nat.zero_le _) [] (by simp; omega)
      rw [encX_mk] at l ⊢
      simp only [Qam, Qan, Qam, List.drop_zero, List.nil_append, beq_self_eq_true] at l
      simp (maxDischargeDepth := 9) only [Qah, Qag, Qbc, Qet, Qeb, Qcx, Qcz, Qhj, Qgi, Qan, Qgo, Qgn, Qgs, Qhc, Qcr, Qcj, Qfv, Qhi, decide_false, if_false, List.drop_zero, List.drop_succ_cons, List.length_cons, List.length_nil, Nat.add_zero, Nat.zero_add, Bool.and_true, Nat.reduceAdd, oLoad_ptr, le_s, Nat.le_refl, List.take_zero, List.take_succ_cons, txt, k0, k1, k2, k5, l]

theorem oTx_enc : ∀ (n : Nat) (x : X), x.size ≤ n → n ≤ 1000000 → x.ok → oTx E n_regex_set n (encX x) = some (txt x)
 | 0, x, h, _, _ => by have := size_pos x; omega
 | n + 1, .mk k s ks, h, hn, hok => by
  have hsz : sizes ks ≤ n := by simp only [X.size] at h; omega
  have hk : ∀ x ∈ ks, oTx E n_regex_set n (encX x) = some (txt x) := fun x hx => oTx_enc n x (Nat.le_trans (size_mem hx) hsz) (by omega) (oks_iff.1 hok.2 x hx)
  have hL : ∀ (l : List X) (sep : List UInt8) (b : Bool), (∀ x ∈ l, oTx E n_regex_set n (encX x) = some (txt x)) → oTxL (oTx E n_regex_set n) sep b (encXs l) = some (txts sep b l) := by
   intro l sep
   induction l with
   | nil => intro b _; rfl
   | cons y l ih =>
    intro b hy
    simp only [encXs, oTxL, hy y List.mem_cons_self, ih false (fun x hx => hy x (List.mem_cons_of_mem _ hx)), Option.bind_some, txts]
  have hls := len_sizes ks
  have hle : (encXs ks).length ≤ 4611686018427387904 := by simp; omega
  have hset := p7_set hok.1 []
  simp only [encX, oTx, txt]
  by_cases k0 : k = 0
  ·simp only [k0, if_true]
  ·by_cases k1 : k = 1
   ·simp only [k1, if_true, show ¬ (1 : Int) = 0 by decide, if_false]
   ·by_cases k2 : k = 2
    ·simp only [k2, if_true, show ¬ (2 : Int) = 0 by decide, show ¬ (2 : Int) = 1 by decide, if_false]
     simp only [encS, S4.cs] at hset
     rw [hset]; rfl
    ·simp only [k0, k1, k2, if_false, hle, if_true, hL ks _ _ hk, Option.bind_some]
theorem p7_Text {x : X} (hx : x.size ≤ 1000000) (hok : x.ok) (H : Heap) : E n_regex_Text [encX x] H = some (.ret (.str (txt x)), H) := by
 have h := oTx_enc 1000000 x hx (Nat.le_refl _) hok
 have hl := txt_len x
 have e : txt x = txt x := rfl
 have hle : (txt x).length ≤ 100000000000000 := by omega
 rw [show E = EV Tryd.prog hint D from rfl, EV_orc (g := oTxt n_regex_set) rfl]
 rw [show E = EV Tryd.prog hint D from rfl] at h
 unfold oTxt
 simp only [encX_nrm, h, Option.bind_some, hle, if_true]
end Go.Proofs.YtjnkigaiogjfcaaDoor
end

section
/- Rows of expressions. -/
namespace Go.Proofs.YtjnkigaiogjfcaaDoor
open Go Go.Ev Go.X7
set_option linter.unusedVariables false
set_option linter.unusedSimpArgs false
set_option maxRecDepth 20000

abbrev rowB (ver : Nat) (l : List X) (rest : List V) : Blk := .row ver 6 true (cellsX l ++ rest)
theorem cellsX_len (l : List X) : (cellsX l).length = l.length * 6 := encX_ok.cellsF_length l
theorem cellsX_app (l m : List X) : cellsX (l ++ m) = cellsX l ++ cellsX m := cellsF_append encX l m
theorem cells_at {l : List X} {j : Nat} (h : j < l.length) (rest : List V) : (cellsX l ++ rest).drop (j * 6) = (encX l[j]).cells ++ (cellsX (l.drop (j + 1)) ++ rest) := by
 have e : l = l.take j ++ l[j] :: l.drop (j + 1) := by rw [List.getElem_cons_drop]; simp
 have e2 : cellsX l = cellsX (l.take j) ++ ((encX l[j]).cells ++ cellsX (l.drop (j + 1))) := by
  conv => lhs; rw [e]
  rw [cellsX_app]; rfl
 rw [e2, List.append_assoc, List.drop_append_of_le_length (by rw [cellsX_len, List.length_take]; omega), List.drop_of_length_le (by rw [cellsX_len, List.length_take]; omega), List.nil_append, List.append_assoc]
theorem take_at {l : List X} {j : Nat} (h : j < l.length) (rest : List V) : takeCells true 6 ((cellsX l ++ rest).drop (j * 6)) = some (encX l[j]) := by
 rw [cells_at h]
 simp only [takeCells, if_true]
 rw [if_pos (by simp only [List.length_append, Qbg]; omega), List.take_append_of_le_length (by simp), Qbo, Qbf]
theorem set_at {l : List X} {j : Nat} (h : j < l.length) (rest : List V) (x : X) : splice (cellsX l ++ rest) (j * 6) (encX x).cells = cellsX (l.set j x) ++ rest := by
 have e : l.set j x = l.take j ++ x :: l.drop (j + 1) := by rw [List.set_eq_take_append_cons_drop, if_pos h]
 have h1 : (cellsX l ++ rest).take (j * 6) = cellsX (l.take j) := by
  have e1 : cellsX l = cellsX (l.take j) ++ cellsX (l.drop j) := by rw [← cellsX_app, List.take_append_drop]
  rw [e1, List.append_assoc, List.take_append_of_le_length (by rw [cellsX_len, List.length_take]; omega), List.take_of_length_le (by rw [cellsX_len, List.length_take]; omega)]
 have h2 : (cellsX l ++ rest).drop (j * 6 + 6) = cellsX (l.drop (j + 1)) ++ rest := by
  rw [← List.drop_drop, cells_at h, List.drop_append_of_le_length (by simp), Qbh, List.nil_append]
 unfold splice
 rw [h1, Qbg, h2, e, cellsX_app]
 have : cellsX (x :: l.drop (j + 1)) = (encX x).cells ++ cellsX (l.drop (j + 1)) := rfl
 rw [this]
 simp only [List.append_assoc]
/-- A slice of expressions. -/
inductive Sl (H : Heap) : V → List X → Prop where
 | nils : Sl H .nils []
 | vs (l : List X) : Sl H (.vs (encXs l)) l
 | rs (i ver : Nat) (l : List X) (rest : List V) (h : hget H i = some (rowB ver l rest)) : Sl H (.rs i ver 6 0 l.length) l
theorem Sl.up {H G : Heap} {v : V} {l : List X} (h : Sl H v l) (hU : Up H G) : Sl G v l := by
 cases h with
 | nils => exact .nils
 | vs => exact .vs _
 | rs i ver l rest h => exact .rs i ver l rest (by rw [hU.get (hget_lt h)]; exact h)
theorem Sl.len {H : Heap} {v : V} {l : List X} (h : Sl H v l) : oLenSl v = some (.int .i64 l.length) := by
 cases h with
 | nils => simp
 | vs => simp
 | rs => simp
/-- What stands at a place of it. -/
theorem Sl.at {H : Heap} {v : V} {l : List X} (h : Sl H v l) {j : Nat} (hj : j < l.length) : ∃ p p0 p5, oIndexPtr 6 v (.int .i64 (j : Int)) = some p ∧ oLoad true 6 H p = some (encX l[j]) ∧
  oFieldPtr p 0 = some p0 ∧ oLoad false 1 H p0 = some (.int .i64 l[j].k) ∧ oFieldPtr p 5 = some p5 ∧ oLoad false 1 H p5 = some (.vs (encXs l[j].ks)) := by
 have hx : ∃ k s ks, l[j] = .mk k s ks := by cases l[j] with | mk k s ks => exact ⟨k, s, ks, rfl⟩
 cases h with
 | nils => simp at hj
 | vs =>
  refine ⟨_, _, _, idxX hj .i64, by simp [takeX], oFieldPtr_fptr _ 0 (by simp), ?_, oFieldPtr_fptr _ 5 (by simp), ?_⟩
  ·obtain ⟨k, s, ks, e⟩ := hx
   rw [e]
   simp [encX_mk, X.k]
  ·obtain ⟨k, s, ks, e⟩ := hx
   rw [e]
   simp [encX_mk, X.ks]
 | rs i ver l rest h =>
  refine ⟨_, _, _, oIndexPtr_rs hj, by rw [oLoad_ptr, h, Nat.zero_add, Qcy, take_at hj], Qet _ _ _ _, ?_, Qet _ _ _ _, ?_⟩
  ·rw [oLoad_ptr, h, Nat.zero_add, Qcy, Nat.add_zero, cells_at hj]
   obtain ⟨k, s, ks, e⟩ := hx
   rw [e]
   simp [encX_mk, X.k]
  ·rw [oLoad_ptr, h, Nat.zero_add, Qcy, ← List.drop_drop, cells_at hj]
   obtain ⟨k, s, ks, e⟩ := hx
   rw [e]
   simp [encX_mk, X.ks]

/-- A row that is being built. -/
inductive Out7 (base : Nat) (H : Heap) : V → List X → Prop where
 | nils : Out7 base H .nils []
 | rs (i ver : Nat) (l : List X) (hb : base ≤ i) (h : hget H i = some (.row ver 6 true (cellsX l))) : Out7 base H (.rs i ver 6 0 l.length) l
theorem Out7.up {base : Nat} {H G : Heap} {v : V} {l : List X} (h : Out7 base H v l) (hU : Up H G) : Out7 base G v l := by
 cases h with
 | nils => exact .nils
 | rs i ver l hb h => exact .rs i ver l hb (by rw [hU.get (hget_lt h)]; exact h)
theorem Out7.sl {base : Nat} {H : Heap} {v : V} {l : List X} (h : Out7 base H v l) : Sl H v l := by
 cases h with
 | nils => exact .nils
 | rs i ver l hb h => exact .rs i ver l [] (by rw [h]; simp [rowB])
theorem allLen_X (m : List X) : allLen 6 (encXs m) = true := by
 induction m with
 | nil => rfl
 | cons x m ih => simp only [encXs, allLen, Qbg, ih]; rfl
theorem flat_X (m : List X) : flat (encXs m) = cellsX m := by rw [encXs_map]; rfl
theorem cellsX_mr (m : List X) : maxRefL (cellsX m) = 0 := clean_mrL (encX_ok.cellsF_clean m) (encX_ok.cellsF_plain m)
/-- More behind it. -/
theorem Out7.appB {H G : Heap} {v : V} {l : List X} {b : Nat} (hB : b ≤ H.length) (h : Out7 H.length G v l) (hU : Up H G) (m : List X) (hn : (l ++ m).length ≤ 1000000000) :
  ∃ v' G', oAppend b 6 64 true v (.vs (encXs m)) G = some (v', G') ∧ Out7 H.length G' v' (l ++ m) ∧ Up H G' := by
 have hs := encX_ok.cellsF_scal m
 have hl := cellsX_len m
 have hmr := cellsX_mr m
 have ha := allLen_X m
 have hf := flat_X m
 rw [List.length_append] at hn
 cases h with
 | nils =>
  rw [oAppend_eq]
  by_cases h0 : m.length = 0
  ·have hm : m = [] := List.length_eq_zero_iff.1 h0
   subst hm
   exact ⟨.nils, G, by simp [rAppend, slLen, slCells, allLen, flat, encXs, appendV], .nils, hU⟩
  ·refine ⟨.rs G.length 0 6 0 m.length, .row 0 6 true (cellsX m) :: G, ?_, .rs G.length 0 m hU.len (by simp), hU.cons _⟩
   have hr : roomOk m.length 64 = true := by simp [roomOk]; omega
   simp [rAppend, slLen, slCells, ha, hf, hs, hl, appendV, h0, hr]
 | rs i ver l hb hg =>
  rw [oAppend_eq]
  have hr : roomOk (l.length + m.length) 64 = true := by simp [roomOk]; omega
  have hbi : b ≤ i := Nat.le_trans hB hb
  have hfit : fits b i (maxRefL (cellsX m)) = true := by simp [fits, hbi]
  by_cases h0 : m.length = 0
  ·have hm : m = [] := List.length_eq_zero_iff.1 h0
   subst hm
   refine ⟨.rs i ver 6 0 l.length, G, ?_, by rw [List.append_nil]; exact .rs i ver l hb hg, hU⟩
   simp only [List.length_nil, Nat.add_zero] at hr
   have hcl := cellsX_len l
   have hss := hset_self hg
   have hc0 : encXs [] = [] := rfl
   have hf0 : fits b i 0 = true := by simp [fits]
   have ht : List.take (l.length * 6) (cellsX l) = cellsX l := List.take_of_length_le (by omega)
   have hd : List.drop (l.length * 6) (cellsX l) = [] := List.drop_of_length_le (by omega)
   simp only [hc0, rAppend, slLen, slCells, allLen, if_true, flat, appendV, scalL, maxRefL, hg, hr, hf0, hcl, List.length_nil, Option.bind_some, Nat.zero_mul, Nat.add_zero, Nat.zero_add, and_self, Nat.le_refl, splice, ht, hd, List.append_nil, hss, Nat.reduceLT]
  ·have hcl := cellsX_len l
   refine ⟨.rs i (ver + 1) 6 0 (l ++ m).length, hset G i (.row (ver + 1) 6 true (cellsX (l ++ m))), ?_, .rs i (ver + 1) (l ++ m) hb (by simp [hget_lt hg]), hU.set hb _⟩
   have h1 : ¬ (l.length + m.length) * 6 ≤ l.length * 6 := by omega
   have h2 : List.take (l.length * 6) (cellsX l) = cellsX l := List.take_of_length_le (by omega)
   simp only [rAppend, slLen, slCells, ha, hf, hs, hl, appendV, hg, hr, hfit, hcl, if_true, Option.bind_some, Qbp, Nat.zero_add, and_self, Nat.le_refl, h1, if_false, h2, cellsX_app, List.length_append, Nat.reduceLT]
theorem Out7.app {H G : Heap} {v : V} {l : List X} (h : Out7 H.length G v l) (hU : Up H G) (m : List X) (hn : (l ++ m).length ≤ 1000000000) :
  ∃ v' G', oAppend H.length 6 64 true v (.vs (encXs m)) G = some (v', G') ∧ Out7 H.length G' v' (l ++ m) ∧ Up H G' := h.appB (Nat.le_refl _) hU m hn
end Go.Proofs.YtjnkigaiogjfcaaDoor
end

section
/- Lists in which those of a kind are what they have; looking for one. -/
namespace Go.Proofs.YtjnkigaiogjfcaaDoor
open Go Go.Ev Go.X7
set_option linter.unusedVariables false
set_option linter.unusedSimpArgs false
set_option maxRecDepth 20000

theorem rt_keep (base : Nat) (v : V) (H : Heap) : rt true base v H = if v.maxRef ≤ base then some (.ret v, htrunc H base) else some (.ret v, H) := by
 rw [rt_eq]
 simp only [retO, retK, if_true]
 split <;> rfl
theorem Sl.k0 {H : Heap} {v : V} {l : List X} (h : Sl H v l) {i : Nat} (hi : ¬ i < l.length) : ¬ (i : Int) < (l.length : Int) := by omega
theorem p7_flat_l {k : Int} {H0 : Heap} {v : V} {l : List X} (hv : Sl H0 v l) (hn : (flatK k l).length ≤ 1000000000) (hl : l.length ≤ 1000000000) : ∀ (m i : Nat), l.length - i = m → i ≤ l.length → ∀ (o : V) (G : Heap), Out7 H0.length G o (flatK k (l.take i)) → Up H0 G →
  ∃ v' G', regex_flat_l1 H0.length (.int .i64 k) o v (.int .i64 l.length) (.int .i64 i) G = some (.ret v', G') ∧ Out7 H0.length G' v' (flatK k l) ∧ Up H0 G'
 | m, i, hm, hi, o, G, ho, hU => by
  rw [regex_flat_l1_eq]
  by_cases h : i < l.length
  ·have h' : (i : Int) < (l.length : Int) := by omega
   obtain ⟨m, rfl⟩ : ∃ j, m = j + 1 := ⟨m - 1, by omega⟩
   have w1 : IntKind.i64.wrap ((i : Int) + 1) = ((i + 1 : Nat) : Int) := by rw [wrap_i64 (by omega) (by omega)]; omega
   obtain ⟨p, p0, p5, q1, q2, -⟩ := (hv.up hU).at h
   have hs := flatK_succ (k := k) h
   have hln := flatK_take_len (k := k) l (i + 1)
   have hG1 := hU.cons (.var (encX l[i]).cells)
   have ho1 := ho.up ((Up.refl G).cons (.var (encX l[i]).cells))
   obtain ⟨kk, s, ks, e⟩ : ∃ k s ks, l[i] = .mk k s ks := by cases l[i] with | mk k s ks => exact ⟨k, s, ks, rfl⟩
   rw [hs] at hln
   by_cases hk : l[i].k = k
   ·rw [if_pos hk] at hs hln
    obtain ⟨v1, G1, a1, a2, a3⟩ := ho1.app hG1 l[i].ks (by omega)
    rw [← hs] at a2
    obtain ⟨v', G', ih, b1, b2⟩ := p7_flat_l hv hn hl m (i + 1) (by omega) (by omega) v1 G1 a2 a3
    refine ⟨v', G', ?_, b1, b2⟩
    rw [e] at hk a1 q2
    simp only [X.k] at hk
    subst hk
    simp only [X.ks] at a1
    rw [encX_mk] at a1 q2
    have j2 : regex_flat_j2 H0.length (.int .i64 kk) v1 v (.int .i64 l.length) (.int .i64 i) G1 = some (.ret v', G') := by
     rw [regex_flat_j2_eq]; simp (maxDischargeDepth := 9) only [Qah, Qdx, w1, ih]
    simp (maxDischargeDepth := 9) only [Qan] at a1
    simp (maxDischargeDepth := 9) only [Qah, Qag, Qbd, Qet, Qeb, Qef, Qcz, Qhj, Qan, Qgo, Qgn, Qgs, Qgy, Qhc, Qdi, Qdt, Qde, Qdd, Qdc, Qhh, Qhf, Qcj, Qcn, Qfv, Qhi, decide_true, if_true, List.drop_zero, List.drop_succ_cons, List.length_cons, List.length_nil, Nat.add_zero, Nat.zero_add, Bool.and_true, List.append_nil, Nat.reduceAdd, oLoad_ptr, oStore_ptr, List.drop_nil, le_s, Nat.le_refl, Nat.zero_le, or_true, and_self, Nat.max_self, List.take_zero, List.take_succ_cons, h', q1, q2, a1, j2]
   ·rw [if_neg hk] at hs hln
    obtain ⟨v1, G1, a1, a2, a3⟩ := ho1.app hG1 [l[i]] (by omega)
    rw [← hs] at a2
    obtain ⟨v', G', ih, b1, b2⟩ := p7_flat_l hv hn hl m (i + 1) (by omega) (by omega) v1 G1 a2 a3
    refine ⟨v', G', ?_, b1, b2⟩
    have lt := Qfe (.agg [.int .i64 0, .int .u64 0, .int .u64 0, .int .u64 0, .int .u64 0, .vs []]) l[i]
    rw [e] at hk a1 q2 lt
    simp only [X.k] at hk
    rw [encX_mk] at q2 lt
    simp only [encXs, encX_mk] at a1
    have j2 : regex_flat_j2 H0.length (.int .i64 k) v1 v (.int .i64 l.length) (.int .i64 i) G1 = some (.ret v', G') := by
     rw [regex_flat_j2_eq]; simp (maxDischargeDepth := 9) only [Qah, Qdx, w1, ih]
    simp (maxDischargeDepth := 9) only [Qan] at a1
    simp (maxDischargeDepth := 9) only [Qah, Qag, Qbd, Qbc, Qet, Qeb, Qef, Qcz, Qhj, Qan, Qgo, Qgn, Qgs, Qgy, Qhc, Qdi, Qdt, Qde, Qdd, Qdc, Qhh, Qhf, Qcj, Qcn, Qfv, Qhi, decide_true, decide_false, if_true, List.drop_zero, List.drop_succ_cons, List.length_cons, List.length_nil, Nat.add_zero, Nat.zero_add, Bool.and_true, List.append_nil, Nat.reduceAdd, oLoad_ptr, oStore_ptr, List.drop_nil, le_s, Nat.le_refl, Nat.zero_le, or_true, and_self, Nat.max_self, List.take_zero, List.take_succ_cons, h', q1, q2, hk, lt, a1, j2]
  ·have h' : ¬ (i : Int) < (l.length : Int) := by omega
   rw [List.take_of_length_le (by omega)] at ho
   simp (maxDischargeDepth := 9) only [Qah, Qag, Qbc, Qet, Qef, Qan, Qgo, Qgn, Qgs, Qgy, Qhh, Qhf, Qcj, Qcn, Qfv, decide_false, List.length_cons, List.length_nil, Nat.add_zero, Nat.zero_add, Bool.and_true, Nat.reduceAdd, oLoad_ptr, oStore_ptr, Nat.le_refl, and_true, and_self, h']
   clear hn
   generalize flatK k l = fl at ho ⊢
   cases ho with
   | nils => exact ⟨.nils, htrunc G H0.length, by rw [rt_keep, if_pos (by simp [V.maxRef])], .nils, by rw [hU.trunc]; exact Up.refl _⟩
   | rs j ver l hb hg => exact ⟨_, G, by rw [rt_keep, if_neg (by simp [V.maxRef]; omega)], .rs j ver _ hb hg, hU⟩
theorem p7_flat {k : Int} {H : Heap} {v : V} {l : List X} (hv : Sl H v l) (hn : (flatK k l).length ≤ 1000000000) (hl : l.length ≤ 1000000000) :
  ∃ v' G', E n_regex_flat [v, .int .i64 k] H = some (.ret v', G') ∧ Out7 H.length G' v' (flatK k l) ∧ Up H G' := by
 obtain ⟨v', G', h1, h2, h3⟩ := p7_flat_l (k := k) hv hn hl l.length 0 rfl (Nat.zero_le _) .nils H .nils (Up.refl H)
 refine ⟨v', G', ?_, h2, h3⟩
 simp only [Qam] at h1
 rw [regex_flat_E, regex_flat_eq]
 simp (maxDischargeDepth := 9) only [Qah, hv.len, h1]
theorem Out7.ret {H G : Heap} {v : V} {l : List X} (h : Out7 H.length G v l) (hU : Up H G) : rt false H.length v G = some (.ret (.vs (encXs l)), H) := by
 cases h with
 | nils => rw [Qgg, hU.trunc]; rfl
 | rs i ver l hb hg =>
  have hf := encX_ok.frz_row (H := G) (base := H.length) (n := 10) (i := i) (ver := ver) (l := l) (m := l.length) hg hb rfl
  rw [Qgh, Qbe, hf, Qga, if_pos (by simp [V.maxRef]), hU.trunc, encXs_map]
theorem r7_flat_l {k : Int} {H0 : Heap} {v : V} {l : List X} (hv : Sl H0 v l) (hn : (flatK k l).length ≤ 1000000000) (hl : l.length ≤ 1000000000) : ∀ (m i : Nat), l.length - i = m → i ≤ l.length → ∀ (o : V) (G : Heap), Out7 H0.length G o (flatK k (l.take i)) → Up H0 G →
  ref07_flat_l1 H0.length v (.int .i64 k) o (.int .i64 i) G = some (.ret (.vs (encXs (flatK k l))), H0)
 | m, i, hm, hi, o, G, ho, hU => by
  rw [ref07_flat_l1_eq]
  by_cases h : i < l.length
  ·have h' : (i : Int) < (l.length : Int) := by omega
   obtain ⟨m, rfl⟩ : ∃ j, m = j + 1 := ⟨m - 1, by omega⟩
   have w1 : IntKind.i64.wrap ((i : Int) + 1) = ((i + 1 : Nat) : Int) := by rw [wrap_i64 (by omega) (by omega)]; omega
   obtain ⟨p, p0, p5, q1, q2, q3, q4, q5, q6⟩ := (hv.up hU).at h
   have hs := flatK_succ (k := k) h
   have hln := flatK_take_len (k := k) l (i + 1)
   rw [hs] at hln
   have j2 : ∀ v1 G1, ref07_flat_l1 H0.length v (.int .i64 k) v1 (.int .i64 ((i + 1 : Nat) : Int)) G1 = some (.ret (.vs (encXs (flatK k l))), H0) → ref07_flat_j2 H0.length v (.int .i64 k) v1 (.int .i64 i) G1 = some (.ret (.vs (encXs (flatK k l))), H0) := fun v1 G1 ih => by
    rw [ref07_flat_j2_eq]; simp (maxDischargeDepth := 9) only [Qah, Qdx, w1, ih]
   by_cases hk : l[i].k = k
   ·rw [if_pos hk] at hs hln
    obtain ⟨v1, G1, a1, a2, a3⟩ := ho.app hU l[i].ks (by omega)
    rw [← hs] at a2
    have ih := j2 _ _ (r7_flat_l hv hn hl m (i + 1) (by omega) (by omega) v1 G1 a2 a3)
    simp (maxDischargeDepth := 9) only [Qah, Qag, Qbd, Qeb, Qef, decide_true, hv.len, h', q1, q3, q4, hk, q5, q6, a1, ih]
   ·rw [if_neg hk] at hs hln
    obtain ⟨v1, G1, a1, a2, a3⟩ := ho.app hU [l[i]] (by omega)
    rw [← hs] at a2
    have ih := j2 _ _ (r7_flat_l hv hn hl m (i + 1) (by omega) (by omega) v1 G1 a2 a3)
    simp only [encXs] at a1
    simp (maxDischargeDepth := 9) only [Qah, Qag, Qbd, Qbc, Qeb, Qef, Qfe, decide_true, decide_false, hv.len, h', q1, q3, q4, hk, q2, a1, ih]
  ·have h' : ¬ (i : Int) < (l.length : Int) := by omega
   rw [List.take_of_length_le (by omega)] at ho
   simp (maxDischargeDepth := 9) only [Qah, Qbc, Qef, decide_false, hv.len, h']
   exact ho.ret hU
theorem r7_flat {k : Int} {H : Heap} {v : V} {l : List X} (hv : Sl H v l) (hn : (flatK k l).length ≤ 1000000000) (hl : l.length ≤ 1000000000) :
  E n_ref07_flat [v, .int .i64 k] H = some (.ret (.vs (encXs (flatK k l))), H) := by
 have h1 := r7_flat_l (k := k) hv hn hl l.length 0 rfl (Nat.zero_le _) .nils H .nils (Up.refl H)
 simp only [Qam] at h1
 rw [ref07_flat_E, ref07_flat_eq]
 exact h1
/-- The first one of which something is so. -/
theorem p7_Index {H : Heap} {v : V} {l : List X} (hv : Sl H v l) (hl : l.length ≤ 1000000000) {f : FuncId} {cap : List V} {q : X → Bool} (hq : ∀ x ∈ l, E f (encX x :: cap) H = some (.ret (.bool (q x)), H)) :
  ∃ r : Int, E n_slices_IndexFunc_api_Re_api_Re [v, .fn f cap] H = some (.ret (.int .i64 r), H) ∧ ((r = -1 ∧ l.any q = false) ∨ ∃ j : Nat, r = j ∧ ∃ h : j < l.length, q l[j] = true ∧ (l.take j).any q = false) := by
 have key : ∀ (m i : Nat), l.length - i = m → i ≤ l.length → (l.take i).any q = false → ∃ r : Int, slices_IndexFunc_api_Re_api_Re_l1 H.length v (.fn f cap) (.int .i64 l.length) (.int .i64 i) H = some (.ret (.int .i64 r), H) ∧ ((r = -1 ∧ l.any q = false) ∨ ∃ j : Nat, r = j ∧ ∃ h : j < l.length, q l[j] = true ∧ (l.take j).any q = false) := by
  intro m
  induction m with
  | zero =>
   intro i hm hi hq0
   have h' : ¬ (i : Int) < (l.length : Int) := by omega
   rw [List.take_of_length_le (by omega)] at hq0
   refine ⟨-1, ?_, .inl ⟨rfl, hq0⟩⟩
   rw [slices_IndexFunc_api_Re_api_Re_l1_eq]
   simp (maxDischargeDepth := 9) only [Qah, Qbc, Qep, Qdx, Qef, Qcx, Qge, decide_false, List.nil_append, List.cons_append, h']
  | succ m ih =>
   intro i hm hi hq0
   have h : i < l.length := by omega
   have h' : (i : Int) < (l.length : Int) := by omega
   have w1 : IntKind.i64.wrap ((i : Int) + 1) = ((i + 1 : Nat) : Int) := by rw [wrap_i64 (by omega) (by omega)]; omega
   obtain ⟨p, p0, p5, q1, q2, -⟩ := hv.at h
   have hx := hq l[i] (List.getElem_mem h)
   cases hb : q l[i] with
   | true =>
    refine ⟨i, ?_, .inr ⟨i, rfl, h, hb, hq0⟩⟩
    rw [hb] at hx
    rw [slices_IndexFunc_api_Re_api_Re_l1_eq]
    simp (maxDischargeDepth := 9) only [Qah, Qab, Qbd, Qep, Qdx, Qef, Qcx, Qge, decide_true, List.nil_append, List.cons_append, h', q1, q2, hx]
   | false =>
    obtain ⟨r, r1, r2⟩ := ih (i + 1) (by omega) (by omega) (by rw [List.take_succ_eq_append_getElem h, List.any_append, hq0]; simp [hb])
    refine ⟨r, ?_, r2⟩
    rw [hb] at hx
    rw [slices_IndexFunc_api_Re_api_Re_l1_eq]
    simp (maxDischargeDepth := 9) only [Qah, Qab, Qbd, Qbc, Qep, Qdx, Qef, Qcx, Qge, decide_true, List.nil_append, List.cons_append, h', q1, q2, hx, w1, r1]
 obtain ⟨r, r1, r2⟩ := key l.length 0 rfl (Nat.zero_le _) rfl
 refine ⟨r, ?_, r2⟩
 simp only [Qam] at r1
 rw [slices_IndexFunc_api_Re_api_Re_E, slices_IndexFunc_api_Re_api_Re_eq]
 simp (maxDischargeDepth := 9) only [Qah, hv.len, r1]
theorem p7_Contains {H : Heap} {v : V} {l : List X} (hv : Sl H v l) (hl : l.length ≤ 1000000000) {f : FuncId} {cap : List V} {q : X → Bool} (hq : ∀ x ∈ l, E f (encX x :: cap) H = some (.ret (.bool (q x)), H)) :
  E n_slices_ContainsFunc_api_Re_api_Re [v, .fn f cap] H = some (.ret (.bool (l.any q)), H) := by
 obtain ⟨r, r1, r2⟩ := p7_Index hv hl hq
 have e : decide (0 ≤ r) = l.any q := by
  rcases r2 with ⟨rfl, h⟩ | ⟨j, rfl, h, h2, -⟩
  ·rw [h]; rfl
  ·rw [decide_eq_true (by omega)]
   exact (List.any_eq_true.2 ⟨_, List.getElem_mem h, h2⟩).symm
 rw [slices_ContainsFunc_api_Re_api_Re_E, slices_ContainsFunc_api_Re_api_Re_eq]
 simp (maxDischargeDepth := 9) only [Qah, Qab, Qec, Qcx, Qgc, r1, e]
/-- Is one of a kind? -/
theorem p7_is (k : Int) (H : Heap) : E n_regex_is [.int .i64 k] H = some (.ret (.fn n_regex_is_1 [.ptr H.length 0 0]), .var [.int .i64 k] :: H) := by
 rw [regex_is_E, regex_is_eq]
 have : ¬ H.length + 1 ≤ H.length := by omega
 have hr : ∀ G, rt false H.length (.fn n_regex_is_1 [.ptr H.length 0 0]) G = some (.ret (.fn n_regex_is_1 [.ptr H.length 0 0]), G) := fun G => by
  rw [rt_F, Qbe, Qbv, Qga, if_neg (by simp [V.maxRef, maxRefL])]
 simp (maxDischargeDepth := 9) only [Qah, Qag, Qfl, Qar, Qgo, Qgn, Qgs, Qfv, Bool.and_true, hr]
theorem p7_is1 (x : X) {k : Int} {c : Nat} {H : Heap} (hc : hget H c = some (.var [.int .i64 k])) : E n_regex_is_1 [encX x, .ptr c 0 0] H = some (.ret (.bool (decide (x.k = k))), H) := by
 rw [regex_is_1_E, regex_is_1_eq]
 have hlt := hget_lt hc
 cases x with
 | mk kk s ks =>
  rw [encX_mk]
  simp (maxDischargeDepth := 9) only [Qah, Qag, Qet, Qeb, Qcx, Qcz, Qhj, Qgc, Qan, Qgo, Qgn, Qgs, Qhc, Qcr, Qck, Qcj, Qfv, List.drop_zero, Nat.add_zero, Bool.and_true, oLoad_ptr, Nat.le_refl, hc, hlt, X.k]
  rfl
end Go.Proofs.YtjnkigaiogjfcaaDoor
end

