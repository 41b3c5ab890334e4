/- Ma: a part of the proof that each law of this seat answers true at every input. No condition. -/
import Derived.Test.YthcjjicplodhjaaDoorTd
import Derived.Test.YthcjjicplodhjaaDoorEnc
import Derived.Test.YthcjjicplodhjaaDoorPc
import Derived.Test.YthcjjicplodhjaaDoorTf
set_option linter.unusedVariables false
set_option linter.unusedSimpArgs false
set_option maxRecDepth 20000
section
/- Numbers that are taken one by one. -/
namespace Go.Proofs.YthcjjicplodhjaaDoor
open Go Go.Ev
set_option linter.unusedVariables false
set_option linter.unusedSimpArgs false

/-- A picker: its numbers, where it stands. -/
abbrev pickB (L : List Int) (a : Nat) : Blk := .var [.vs (L.map (V.int .u8)), .int .i64 (a : Int)]
theorem c_pick {L : List Int} (hL : ∀ n ∈ L, 0 ≤ n ∧ n ≤ 255) (hl : L.length ≤ 9223372036854775807) {a : Nat} (ha : a ≤ 1000000) {n : Int} (hn : 1 ≤ n ∧ n ≤ 1000000) {G : Heap} {i : Nat} (hg : hget G i = some (pickB L a)) :
    ∃ r : Int, 0 ≤ r ∧ r < n ∧ E n_law04_picker_pick [.ptr i 0 0, .int .i64 n] G = some (.ret (.int .i64 r), hset G i (pickB L (a + 1))) := by
  have hi := hget_lt hg
  rw [law04_picker_pick_E, law04_picker_pick_eq]
  have w1 : IntKind.i64.wrap ((a : Int) + 1) = ((a + 1 : Nat) : Int) := by rw [wrap_i64 (by omega) (by omega)]; omega
  have w2 : IntKind.i64.wrap (((a + 1 : Nat) : Int) - 1) = (a : Int) := by rw [wrap_i64 (by omega) (by omega)]; omega
  by_cases h1 : (L.length : Int) < ((a + 1 : Nat) : Int)
  · refine ⟨0, by omega, by omega, ?_⟩
    simp (maxDischargeDepth := 9) only [Qah, Qag, Qbe, Qcj, Qfp, Qfu, Qfr, Qew, Qff, Qea, Qeo, Qeg, Qdc, Qhm, Qgh, Qas, Qgr, Qgq, Qgv, Qdl, Qhk, Qhi, Qhh, Qcv, Qco, decide_true, if_true, List.drop_zero, List.drop_succ_cons, List.length_cons, List.length_nil, Nat.add_zero, Nat.zero_add, Bool.and_true, List.append_nil, Nat.reduceAdd, oLoad_ptr, oStore_ptr, List.drop_nil, le_s, Nat.le_refl, Nat.zero_le, or_true, and_self, hg, hi, w1, List.length_map, h1]
  · by_cases h2 : (150 : Int) < ((a + 1 : Nat) : Int)
    · refine ⟨0, by omega, by omega, ?_⟩
      simp (maxDischargeDepth := 9) only [Qah, Qag, Qbe, Qcl, Qfp, Qft, Qfr, Qew, Qff, Qea, Qeo, Qeg, Qdc, Qhm, Qgh, Qas, Qgr, Qgq, Qgv, Qdl, Qhk, Qhi, Qhh, Qcv, Qco, decide_true, decide_false, if_true, List.drop_zero, List.drop_succ_cons, List.length_cons, List.length_nil, Nat.add_zero, Nat.zero_add, Bool.and_true, List.append_nil, Nat.reduceAdd, oLoad_ptr, oStore_ptr, List.drop_nil, le_s, Nat.le_refl, Nat.zero_le, or_true, and_self, hg, hi, w1, List.length_map, h1, h2]
    · obtain ⟨z, hz, e1⟩ := idx_int (l := L) (k' := .u8) (i := (a : Int)) (k := .i64) (by omega) (by omega)
      obtain ⟨z0, z1⟩ := hL z hz
      have hm : 0 ≤ z % n ∧ z % n < n := ⟨Int.emod_nonneg _ (by omega), Int.emod_lt_of_pos _ (by omega)⟩
      have w3 : IntKind.i64.wrap z = z := wrap_i64 (by omega) (by omega)
      have w4 : IntKind.i64.wrap (z % n) = z % n := wrap_i64 (by omega) (by omega)
      refine ⟨z % n, hm.1, hm.2, ?_⟩
      simp (maxDischargeDepth := 9) only [Qah, Qag, Qbd, Qcl, Qfp, Qft, Qfr, Qew, Qfb, Qff, Qea, Qeo, Qeg, Qdc, Qfk, Qhm, Qgh, Qas, Qgr, Qgq, Qgv, Qdl, Qhk, Qhi, Qhh, Qcv, Qco, decide_false, if_true, List.drop_zero, List.drop_succ_cons, List.length_cons, List.length_nil, Nat.add_zero, Nat.zero_add, Bool.and_true, List.append_nil, Nat.reduceAdd, oLoad_ptr, oStore_ptr, List.drop_nil, le_s, Nat.le_refl, Nat.zero_le, or_true, and_self, hg, hi, w1, w2, List.length_map, h1, h2, e1, w3, oBin_rem _ _ _ _ (show n ≠ 0 by omega), Int.tmod_eq_emod_of_nonneg z0, w4]
end Go.Proofs.YthcjjicplodhjaaDoor
end

section
/- Expressions by numbers. -/
namespace Go.Proofs.YthcjjicplodhjaaDoor
open Go Go.Ev
set_option linter.unusedVariables false
set_option linter.unusedSimpArgs false

/-- What an expression by numbers is, so many in one another. -/
def ExprAt (L : List Int) (d : Nat) : Prop := ∀ (G : Heap) (i a : Nat), hget G i = some (pickB L a) → a + 4 ^ (d + 1) ≤ 5000 →
  ∃ (e : Rd.Expr) (a' : Nat), a ≤ a' ∧ a' ≤ a + 4 ^ (d + 1) ∧ Te.right d e = true ∧ Te.wE e ≤ 5 * 4 ^ d ∧ E n_law04_picker_expr [.ptr i 0 0, .int .i64 d] G = some (.ret (encE e), hset G i (pickB L a'))
theorem pick_o {L : List Int} {b : Blk} {G : Heap} {i a a' : Nat} (hi : i < G.length) : hset (b :: hset G i (pickB L a)) i (pickB L a') = b :: hset G i (pickB L a') := by
  rw [Qcr (by simpa using hi), Qcs]
theorem pick_g {L : List Int} {b : Blk} {G : Heap} {i a : Nat} (hi : i < G.length) : hget (b :: hset G i (pickB L a)) i = some (pickB L a) := by
  rw [Qcn (by simpa using hi), Qco hi]

theorem expr_end {kk : Int} {n ver m : Nat} {l : List Rd.Expr} {H : Heap} {d : V} {t : V} (hn : H.length = n) (hm : m = l.length) :
    law04_picker_expr_l2 n t d (.ptr n 0 0) (.ptr (n + 1) 0 0) (.int .i64 0) (.row ver 6 true (cellsE l) :: .var [.int .i64 kk, .str [], .nils, .int .i64 0, .int .i64 0, .rs (n + 2) ver 6 0 m] :: .var [.int .i64 0, .str [], .nils, .int .i64 0, .int .i64 0, .nils] :: H) = some (.ret (encE (.mk kk [] [] 0 0 l)), H) := by
  subst hn
  subst hm
  rw [law04_picker_expr_l2_eq]
  have hf := fun (H' : Heap) hg => frz_encEs (H := H') (base := H.length) (i := H.length + 2) (ver := ver) (l := l) (m := l.length) (n := 9) hg (by omega) rfl
  simp (maxDischargeDepth := 9) only [Qah, Qag, Qbd, Qew, Qeo, Qeg, Qda, Qdc, Qhm, Qao, Qgr, Qgq, Qgv, Qhe, Qhb, Qhd, Qdl, Qdu, Qdw, Qdh, Qdg, Qdf, Qhk, Qhi, Qcu, Qcn, Qcr, Qcm, Qcq, Qhl, Qge, Qgd, Qbf, Qca, Qcf, Qcd, Qbw, Qde, Qdd, decide_false, if_true, List.drop_zero, List.drop_succ_cons, List.length_cons, List.length_nil, Nat.zero_add, Option.bind_some, Option.map_some, Bool.and_true, List.append_nil, Nat.reduceAdd, oLoad_ptr, oStore_ptr, List.drop_nil, lt_s, le_s, Nat.le_refl, Nat.lt_add_one, Nat.zero_le, true_or, and_true, and_self, Nat.max_self, List.take_zero, List.take_succ_cons, Int.lt_irrefl, encE, hf]
  rfl
theorem expr_l2 {L : List Int} {d : Nat} (hd : d ≤ 100) (hx : ExprAt L d) {kk : Int} {H : Heap} {i : Nat} (hi : i < H.length) : ∀ (c : Nat) (l : List Rd.Expr) (ver a : Nat), c ≤ 3 → l ≠ [] → l.length + c ≤ 10 → a + c * 4 ^ (d + 1) ≤ 5000 →
    ∃ (ks : List Rd.Expr) (a' : Nat), a ≤ a' ∧ a' ≤ a + c * 4 ^ (d + 1) ∧ ks.length = c ∧ ks.all (Te.right d) = true ∧ Te.wEs ks ≤ c * (5 * 4 ^ d) ∧
    law04_picker_expr_l2 H.length (.ptr i 0 0) (.int .i64 ((d + 1 : Nat) : Int)) (.ptr H.length 0 0) (.ptr (H.length + 1) 0 0) (.int .i64 c) (.row ver 6 true (cellsE l) :: .var [.int .i64 kk, .str [], .nils, .int .i64 0, .int .i64 0, .rs (H.length + 2) ver 6 0 l.length] :: .var [.int .i64 0, .str [], .nils, .int .i64 0, .int .i64 0, .nils] :: hset H i (pickB L a)) = some (.ret (encE (.mk kk [] [] 0 0 (l ++ ks))), hset H i (pickB L a'))
  | 0, l, ver, a, hc, hl, hlen, ha => by
    refine ⟨[], a, Nat.le_refl _, by omega, rfl, rfl, by simp [Te.wEs], ?_⟩
    have h := expr_end (kk := kk) (n := H.length) (ver := ver) (m := l.length) (l := l) (H := hset H i (pickB L a)) (d := .int .i64 ((d + 1 : Nat) : Int)) (t := .ptr i 0 0) (by simp) rfl
    rw [List.append_nil]
    exact h
  | c + 1, l, ver, a, hc, hl, hlen, ha => by
    have hmul : (c + 1) * 4 ^ (d + 1) = c * 4 ^ (d + 1) + 4 ^ (d + 1) := Nat.succ_mul _ _
    have hmul2 : (c + 1) * (5 * 4 ^ d) = c * (5 * 4 ^ d) + 5 * 4 ^ d := Nat.succ_mul _ _
    obtain ⟨e, a1, h1, h2, h3, h4, h5⟩ := hx (.row ver 6 true (cellsE l) :: .var [.int .i64 kk, .str [], .nils, .int .i64 0, .int .i64 0, .rs (H.length + 2) ver 6 0 l.length] :: .var [.int .i64 0, .str [], .nils, .int .i64 0, .int .i64 0, .nils] :: hset H i (pickB L a)) i a (by
      rw [Qcn (by simp; omega), Qcn (by simp; omega), pick_g hi]) (by omega)
    rw [Qcr (by simp; omega), Qcr (by simp; omega), pick_o hi] at h5
    obtain ⟨ks, a', k1, k2, k3, k4, k5, k6⟩ := expr_l2 hd hx (kk := kk) hi c (l ++ [e]) (ver + 1) a1 (by omega) (by simp) (by simp; omega) (by omega)
    refine ⟨e :: ks, a', by omega, by omega, by simp [k3], by simp [h3, k4], by simp only [Te.wEs]; omega, ?_⟩
    have w1 : IntKind.i64.wrap (((d + 1 : Nat) : Int) - 1) = (d : Int) := by rw [wrap_i64 (by omega) (by omega)]; omega
    have w2 : IntKind.i64.wrap (((c + 1 : Nat) : Int) - 1) = (c : Int) := by rw [wrap_i64 (by omega) (by omega)]; omega
    have hp : (0 : Int) < ((c + 1 : Nat) : Int) := by omega
    have hap := fun (G : Heap) hg => append_encE (base := H.length) (i := H.length + 2) (ver := ver) (H := G) (l := l) (e := e) (n := l.length) hg rfl (by omega)
    rw [law04_picker_expr_l2_eq]
    simp only [List.length_append, List.length_cons, List.length_nil, List.append_assoc, List.cons_append, List.nil_append] at k6
    simp (maxDischargeDepth := 9) only [Qah, Qag, Qab, Qbe, Qhg, Qgp, Qew, Qeo, Qeg, Qdc, Qhm, Qba, Qao, Qgr, Qgq, Qgv, Qhe, Qhb, Qhd, Qdt, Qhk, Qhi, Qhh, Qcn, Qcr, Qcm, Qcq, Qhl, Qge, Qbf, Qca, Qcf, Qcd, Qbw, Qde, Qdd, Qfh, decide_true, if_true, List.drop_zero, List.drop_succ_cons, List.length_cons, List.length_nil, Nat.zero_add, Option.bind_some, Option.map_some, Bool.and_true, List.append_nil, Nat.reduceAdd, hset_length, Nat.reduceLeDiff, oLoad_ptr, oStore_ptr, List.drop_nil, lt_s, le_s, Nat.le_refl, Nat.lt_add_one, true_or, and_true, and_self, List.take_zero, List.take_succ_cons, hp, w1, h5, hap, w2, k6]
theorem expr_l1 {L : List Int} {d : Nat} (hd : d ≤ 100) (hx : ExprAt L d) {kk : Int} {H : Heap} {i : Nat} (hi : i < H.length) (c : Nat) (a : Nat) (hc : c ≤ 2) (ha : a + (c + 1) * 4 ^ (d + 1) ≤ 5000) :
    ∃ (ks : List Rd.Expr) (a' : Nat), a ≤ a' ∧ a' ≤ a + (c + 1) * 4 ^ (d + 1) ∧ ks.length = c + 1 ∧ ks.all (Te.right d) = true ∧ Te.wEs ks ≤ (c + 1) * (5 * 4 ^ d) ∧
    law04_picker_expr_l2 H.length (.ptr i 0 0) (.int .i64 ((d + 1 : Nat) : Int)) (.ptr H.length 0 0) (.ptr (H.length + 1) 0 0) (.int .i64 ((c + 1 : Nat) : Int)) (.var [.int .i64 kk, .str [], .nils, .int .i64 0, .int .i64 0, .nils] :: .var [.int .i64 0, .str [], .nils, .int .i64 0, .int .i64 0, .nils] :: hset H i (pickB L a)) = some (.ret (encE (.mk kk [] [] 0 0 ks)), hset H i (pickB L a')) := by
  have hmul : (c + 1) * 4 ^ (d + 1) = c * 4 ^ (d + 1) + 4 ^ (d + 1) := Nat.succ_mul _ _
  have hmul2 : (c + 1) * (5 * 4 ^ d) = c * (5 * 4 ^ d) + 5 * 4 ^ d := Nat.succ_mul _ _
  obtain ⟨e, a1, h1, h2, h3, h4, h5⟩ := hx (.var [.int .i64 kk, .str [], .nils, .int .i64 0, .int .i64 0, .nils] :: .var [.int .i64 0, .str [], .nils, .int .i64 0, .int .i64 0, .nils] :: hset H i (pickB L a)) i a (by
    rw [Qcn (by simp; omega), pick_g hi]) (by omega)
  rw [Qcr (by simp; omega), pick_o hi] at h5
  obtain ⟨ks, a', k1, k2, k3, k4, k5, k6⟩ := expr_l2 hd hx (kk := kk) hi c [e] 0 a1 (by omega) (by simp) (by simp; omega) (by omega)
  refine ⟨e :: ks, a', by omega, by omega, by simp [k3], by simp [h3, k4], by simp only [Te.wEs]; omega, ?_⟩
  have w1 : IntKind.i64.wrap (((d + 1 : Nat) : Int) - 1) = (d : Int) := by rw [wrap_i64 (by omega) (by omega)]; omega
  have w2 : IntKind.i64.wrap (((c + 1 : Nat) : Int) - 1) = (c : Int) := by rw [wrap_i64 (by omega) (by omega)]; omega
  have hp : (0 : Int) < ((c + 1 : Nat) : Int) := by omega
  have hap := fun (G : Heap) => oAppend_nil1 (base := H.length) (sz := 6) (by_ := 88) (ag := true) (x := encE e) (H := G) (by simp) (by simp) (by omega) (by decide)
  have hc1 : (encE e).cells = cellsE [e] := (cellsE_one e).symm
  rw [hc1] at hap
  rw [law04_picker_expr_l2_eq]
  simp only [List.length_cons, List.length_nil, List.cons_append, List.nil_append] at k6
  simp (maxDischargeDepth := 9) only [Qah, Qag, Qab, Qbe, Qhg, Qgp, Qew, Qeo, Qeg, Qdc, Qhm, Qba, Qao, Qgr, Qgq, Qgv, Qhe, Qhb, Qhd, Qdl, Qdu, Qdw, Qdt, Qdh, Qdg, Qdf, Qhk, Qhi, Qhh, Qcv, Qcu, Qcn, Qcr, Qcm, Qcq, Qhl, Qge, Qgd, Qbf, Qca, Qcf, Qcd, Qbw, Qde, Qdd, Qfh, decide_true, if_true, List.drop_zero, List.drop_succ_cons, List.length_cons, List.length_nil, Nat.zero_add, Option.bind_some, Option.map_some, Bool.and_true, List.append_nil, Nat.reduceAdd, hset_length, Nat.reduceLeDiff, oLoad_ptr, oStore_ptr, List.drop_nil, le_s, Nat.le_refl, Nat.lt_add_one, Nat.zero_le, true_or, and_true, and_self, Nat.max_self, List.take_zero, List.take_succ_cons, hp, w1, h5, hap, w2, k6]
end Go.Proofs.YthcjjicplodhjaaDoor
end

section
/- Expressions by numbers, whole. -/
namespace Go.Proofs.YthcjjicplodhjaaDoor
open Go Go.Ev
set_option linter.unusedVariables false
set_option linter.unusedSimpArgs false

theorem rt_nn (base : Nat) (k : Int) (t : List UInt8) (lo hi : Int) (H : Heap) : rt false base (.agg [.int .i64 k, .str t, .nils, .int .i64 lo, .int .i64 hi, .nils]) H = some (.ret (encE (.mk k t [] lo hi [])), htrunc H base) := rt_frz rfl (Nat.zero_le _)
theorem rt_kn (base : Nat) (k : Int) (t : List UInt8) (n : List Int) (lo hi : Int) (H : Heap) : rt false base (.agg [.int .i64 k, .str t, encI n, .int .i64 lo, .int .i64 hi, .nils]) H = some (.ret (encE (.mk k t n lo hi [])), htrunc H base) := rt_frz rfl (Nat.zero_le _)
theorem rt_nk (base : Nat) (k : Int) (t : List UInt8) (ks : List Rd.Expr) (lo hi : Int) (H : Heap) : rt false base (.agg [.int .i64 k, .str t, .nils, .int .i64 lo, .int .i64 hi, .vs (encEs ks)]) H = some (.ret (encE (.mk k t [] lo hi ks)), htrunc H base) := rt_frz rfl (Nat.zero_le _)
theorem right_leaf {d : Nat} {k : Int} {t : List UInt8} {n : List Int} {lo hi : Int} (h : Te.own k t n lo hi 0 = true) : Te.right d (.mk k t n lo hi []) = true := by
  cases d <;> simp [Te.right, h]
def names5 : List (List UInt8) := [[97], [98], [99], [119, 111, 114, 100], [120, 45, 49]]
def folds5 : List (List UInt8) := [[], [97], [98, 32, 99], [120, 59], [105, 102]]
def nums5 : List Int := [0, 65, 10, 255, 1114111]
theorem lit_names5 : oLit 1 5 (.str []) [(0, (.str [97])), (1, (.str [98])), (2, (.str [99])), (3, (.str [119, 111, 114, 100])), (4, (.str [120, 45, 49]))] = some (.vs (names5.map V.str)) := by rw [oLit_eq]; rfl
theorem lit_folds5 : oLit 1 5 (.str []) [(0, (.str [])), (1, (.str [97])), (2, (.str [98, 32, 99])), (3, (.str [120, 59])), (4, (.str [105, 102]))] = some (.vs (folds5.map V.str)) := by rw [oLit_eq]; rfl
theorem lit_nums5 : oLit 1 5 (.int .i64 0) [(0, (.int .i64 0)), (1, (.int .i64 65)), (2, (.int .i64 10)), (3, (.int .i64 255)), (4, (.int .i64 1114111))] = some (.vs (nums5.map (V.int .i64))) := by rw [oLit_eq]; rfl
theorem names5_ok : ∀ t ∈ names5, Te.name t = true ∧ t.length ≤ 4 := by decide
theorem folds5_ok : ∀ t ∈ folds5, Te.fold t = true ∧ t.length ≤ 4 := by decide
theorem nums5_ok : ∀ n ∈ nums5, 0 ≤ n ∧ n ≤ 1114111 := by decide
theorem wa : IntKind.i64.wrap 1 = 1 := by decide
theorem wb : IntKind.i64.wrap 2 = 2 := by decide
theorem four (d : Nat) : 4 ≤ 4 ^ (d + 1) := by
  have := Nat.pow_le_pow_right (n := 4) (by omega) (show 1 ≤ d + 1 by omega)
  simpa using this
theorem one4 (d : Nat) : 1 ≤ 4 ^ d := Nat.one_le_pow _ _ (by omega)

variable {L : List Int}
/-- What is said of one way. -/
def WayAt (L : List Int) (d : Nat) (G : Heap) (i a b : Nat) (r : Option (Out × Heap)) : Prop :=
  ∃ (e : Rd.Expr) (a' : Nat), a ≤ a' ∧ a' ≤ b ∧ Te.right d e = true ∧ Te.wE e ≤ 5 * 4 ^ d ∧ r = some (.ret (encE e), hset G i (pickB L a'))
theorem j1_leaf (hL : ∀ n ∈ L, 0 ≤ n ∧ n ≤ 255) (hl : L.length ≤ 9223372036854775807) {d : Nat} {D : V} {G : Heap} {i a : Nat} (hi : i < G.length) (ha : a ≤ 6000) {k : Int} (hk0 : 0 ≤ k) (hk : k < 5) :
    WayAt L d G i a (a + 3) (law04_picker_expr_j1 G.length (.ptr i 0 0) D (.ptr G.length 0 0) (.int .i64 k) (.var [.int .i64 0, .str [], .nils, .int .i64 0, .int .i64 0, .nils] :: hset G i (pickB L a))) := by
  have h4 := one4 d
  rw [law04_picker_expr_j1_eq]
  by_cases h2 : k < 2
  · obtain ⟨r, r0, r1, er⟩ := c_pick hL hl (a := a) (by omega) (n := 5) (by omega) (pick_g (b := .var [.int .i64 0, .str [], .nils, .int .i64 0, .int .i64 0, .nils]) (L := L) hi)
    rw [pick_o hi] at er
    obtain ⟨t, ht, et⟩ := idx_str (l := names5) (i := r) (k := .i64) r0 (by exact r1)
    obtain ⟨t1, t2⟩ := names5_ok t ht
    refine ⟨.mk 4 t [] 0 0 [], a + 1, by omega, by omega, right_leaf (by simp [Te.own, t1]), by simp only [Te.wE, Te.wEs, List.length_nil]; omega, ?_⟩
    simp (maxDischargeDepth := 9) only [Qah, Qag, Qab, Qbe, Qfp, Qeo, Qee, Qei, Qdc, Qfk, Qhm, Qao, Qgr, Qgq, Qgv, Qhe, Qhb, Qdl, Qdu, Qdr, Qdh, Qdg, Qdf, Qhk, Qhi, Qcv, Qcu, Qcm, Qcq, Qfy, Qhl, Qfm, decide_true, if_true, List.drop_zero, List.drop_succ_cons, List.length_cons, List.length_nil, Nat.zero_add, Bool.and_true, List.append_nil, Nat.reduceAdd, hset_length, oLoad_ptr, oStore_ptr, List.drop_nil, le_s, Nat.le_refl, Nat.zero_le, or_true, true_or, and_true, and_self, Nat.max_self, List.take_zero, List.take_succ_cons, h2, lit_names5, er, et, bE_text, rt_nn]
  by_cases h3 : k = 2
  · obtain ⟨r, r0, r1, er⟩ := c_pick hL hl (a := a) (by omega) (n := 5) (by omega) (pick_g (b := .var [.int .i64 0, .str [], .nils, .int .i64 0, .int .i64 0, .nils]) (L := L) hi)
    rw [pick_o hi] at er
    obtain ⟨t, ht, et⟩ := idx_str (l := folds5) (i := r) (k := .i64) r0 (by exact r1)
    obtain ⟨t1, t2⟩ := folds5_ok t ht
    refine ⟨.mk 5 t [] 0 0 [], a + 1, by omega, by omega, right_leaf (by simp [Te.own, t1]), by simp only [Te.wE, Te.wEs, List.length_nil]; omega, ?_⟩
    simp (maxDischargeDepth := 9) only [Qah, Qag, Qab, Qbe, Qbd, Qfp, Qeo, Qee, Qei, Qdc, Qfk, Qhm, Qao, Qgr, Qgq, Qgv, Qhe, Qhb, Qdl, Qdu, Qdr, Qdh, Qdg, Qdf, Qhk, Qhi, Qcv, Qcu, Qcm, Qcq, Qfy, Qhl, Qfm, decide_true, decide_false, if_true, List.drop_zero, List.drop_succ_cons, List.length_cons, List.length_nil, Nat.zero_add, Bool.and_true, List.append_nil, Nat.reduceAdd, hset_length, oLoad_ptr, oStore_ptr, List.drop_nil, le_s, Nat.le_refl, Nat.zero_le, or_true, true_or, and_true, and_self, Nat.max_self, List.take_zero, List.take_succ_cons, h2, h3, Int.reduceLT, lit_folds5, er, et, bE_text, rt_nn]
  by_cases h5 : k = 3
  · obtain ⟨r, r0, r1, er⟩ := c_pick hL hl (a := a) (by omega) (n := 5) (by omega) (pick_g (b := .var [.int .i64 0, .str [], .nils, .int .i64 0, .int .i64 0, .nils]) (L := L) hi)
    rw [pick_o hi] at er
    obtain ⟨x, hx, ex⟩ := idx_int (l := nums5) (k' := .i64) (i := r) (k := .i64) r0 (by exact r1)
    obtain ⟨x0, x1⟩ := nums5_ok x hx
    obtain ⟨y, y0, y1, ey⟩ := c_pick hL hl (a := a + 1) (by omega) (n := 4) (by omega) (pick_g (b := .var [.int .i64 0, .str [], .nils, .int .i64 0, .int .i64 0, .nils]) (L := L) hi)
    rw [pick_o hi] at ey
    obtain ⟨z, z0, z1, ez⟩ := c_pick hL hl (a := a + 1 + 1) (by omega) (n := 2) (by omega) (pick_g (b := .var [.int .i64 0, .str [], .nils, .int .i64 0, .int .i64 0, .nils]) (L := L) hi)
    rw [pick_o hi] at ez
    have w1 : IntKind.i64.wrap (97 + y) = 97 + y := wrap_i64 (by omega) (by omega)
    have li : ∀ q, oLit 1 2 q [(0, .int .i64 x), (1, .int .i64 (97 + y))] = some (.vs ([x, 97 + y].map (V.int .i64))) := fun q => oLit_v2 (x := .int .i64 x) (y := .int .i64 (97 + y)) rfl rfl rfl rfl rfl rfl
    obtain rfl | rfl : z = 0 ∨ z = 1 := by omega
    · have sl : oSlice 1 (.vs ([x, 97 + y].map (V.int .i64))) none (some (.int .i64 1)) none = some (encI [x]) := by rw [oSlice_eq]; rfl
      have bn : oBuild [.int .i64 0, .str [], .nils, .int .i64 0, .int .i64 0, .nils] [(0, 1), (1, 1), (2, 1), (3, 1), (4, 1), (5, 1)] [(0, .int .i64 6), (2, encI [x])] = some (.agg [.int .i64 6, .str [], encI [x], .int .i64 0, .int .i64 0, .nils]) := bE_nums 6 _
      refine ⟨.mk 6 [] [x] 0 0 [], a + 1 + 1 + 1, by omega, by omega, right_leaf (by simp [Te.own, Te.nums, Te.numC, x0, x1]), by simp only [Te.wE, Te.wEs, List.length_nil, List.length_cons]; omega, ?_⟩
      simp (maxDischargeDepth := 9) only [Qah, Qag, Qab, Qbe, Qbd, Qhg, Qgp, Qea, Qeo, Qee, Qei, Qdc, Qfk, Qhm, Qao, Qgr, Qgq, Qgv, Qhe, Qhb, Qdl, Qdu, Qdr, Qdh, Qdg, Qdf, Qhk, Qhi, Qcv, Qcu, Qcm, Qcq, Qfy, Qhl, Qfm, Qbs, Qbr, decide_true, decide_false, if_true, List.drop_zero, List.drop_succ_cons, List.length_cons, List.length_nil, Nat.zero_add, Bool.and_true, List.append_nil, Nat.reduceAdd, Int.reduceAdd, hset_length, oLoad_ptr, oStore_ptr, List.drop_nil, le_s, Nat.le_refl, Nat.zero_le, or_true, true_or, and_true, and_self, Nat.max_self, List.take_zero, List.take_succ_cons, h2, h3, h5, Int.reduceLT, Int.reduceEq, lit_nums5, er, ex, ey, ez, w1, wa, wb, li, sl, bn, rt_kn]
    · have sl : oSlice 1 (.vs ([x, 97 + y].map (V.int .i64))) none (some (.int .i64 2)) none = some (encI [x, 97 + y]) := by rw [oSlice_eq]; rfl
      have bn : oBuild [.int .i64 0, .str [], .nils, .int .i64 0, .int .i64 0, .nils] [(0, 1), (1, 1), (2, 1), (3, 1), (4, 1), (5, 1)] [(0, .int .i64 6), (2, encI [x, 97 + y])] = some (.agg [.int .i64 6, .str [], encI [x, 97 + y], .int .i64 0, .int .i64 0, .nils]) := bE_nums 6 _
      refine ⟨.mk 6 [] [x, 97 + y] 0 0 [], a + 1 + 1 + 1, by omega, by omega, right_leaf (by simp [Te.own, Te.nums, Te.numC, x0, x1]; omega), by simp only [Te.wE, Te.wEs, List.length_nil, List.length_cons]; omega, ?_⟩
      simp (maxDischargeDepth := 9) only [Qah, Qag, Qab, Qbe, Qbd, Qhg, Qgp, Qea, Qeo, Qee, Qei, Qdc, Qfk, Qhm, Qao, Qgr, Qgq, Qgv, Qhe, Qhb, Qdl, Qdu, Qdr, Qdh, Qdg, Qdf, Qhk, Qhi, Qcv, Qcu, Qcm, Qcq, Qfy, Qhl, Qfm, Qbs, Qbr, decide_true, decide_false, if_true, List.drop_zero, List.drop_succ_cons, List.length_cons, List.length_nil, Nat.zero_add, Bool.and_true, List.append_nil, Nat.reduceAdd, Int.reduceAdd, hset_length, oLoad_ptr, oStore_ptr, List.drop_nil, le_s, Nat.le_refl, Nat.zero_le, or_true, true_or, and_true, and_self, Nat.max_self, List.take_zero, List.take_succ_cons, h2, h3, h5, Int.reduceLT, Int.reduceEq, lit_nums5, er, ex, ey, ez, w1, wa, wb, li, sl, bn, rt_kn]
  · obtain rfl : k = 4 := by omega
    obtain ⟨x, x0, x1, ex⟩ := c_pick hL hl (a := a) (by omega) (n := 200) (by omega) (pick_g (b := .var [.int .i64 0, .str [], .nils, .int .i64 0, .int .i64 0, .nils]) (L := L) hi)
    rw [pick_o hi] at ex
    obtain ⟨y, y0, y1, ey⟩ := c_pick hL hl (a := a + 1) (by omega) (n := 60) (by omega) (pick_g (b := .var [.int .i64 0, .str [], .nils, .int .i64 0, .int .i64 0, .nils]) (L := L) hi)
    rw [pick_o hi] at ey
    have w1 : IntKind.i64.wrap (x + y) = x + y := wrap_i64 (by omega) (by omega)
    have li : ∀ q, oLit 1 2 q [(0, .int .i64 x), (1, .int .i64 (x + y))] = some (encI [x, x + y]) := fun q => oLit_v2 (x := .int .i64 x) (y := .int .i64 (x + y)) rfl rfl rfl rfl rfl rfl
    have bn : oBuild [.int .i64 0, .str [], .nils, .int .i64 0, .int .i64 0, .nils] [(0, 1), (1, 1), (2, 1), (3, 1), (4, 1), (5, 1)] [(0, .int .i64 7), (2, encI [x, x + y])] = some (.agg [.int .i64 7, .str [], encI [x, x + y], .int .i64 0, .int .i64 0, .nils]) := bE_nums 7 _
    refine ⟨.mk 7 [] [x, x + y] 0 0 [], a + 1 + 1, by omega, by omega, right_leaf (by simp [Te.own, Te.nums, Te.numC]; omega), by simp only [Te.wE, Te.wEs, List.length_nil, List.length_cons]; omega, ?_⟩
    simp (maxDischargeDepth := 9) only [Qah, Qag, Qab, Qbe, Qbd, Qfp, Qea, Qee, Qei, Qdc, Qao, Qgr, Qgq, Qgv, Qhe, Qhb, Qdl, Qdu, Qdr, Qdh, Qdg, Qdf, Qhk, Qhi, Qcv, Qcu, Qcm, Qcq, Qfy, Qhl, Qbs, Qbr, decide_true, decide_false, if_true, List.drop_zero, List.drop_succ_cons, List.length_cons, List.length_nil, Nat.zero_add, Bool.and_true, List.append_nil, Nat.reduceAdd, hset_length, oLoad_ptr, oStore_ptr, List.drop_nil, le_s, Nat.le_refl, Nat.zero_le, or_true, true_or, and_true, and_self, Nat.max_self, List.take_zero, List.take_succ_cons, Int.reduceLT, Int.reduceEq, ex, ey, w1, li, bn, rt_kn]
theorem j1_rep (hL : ∀ n ∈ L, 0 ≤ n ∧ n ≤ 255) (hl : L.length ≤ 9223372036854775807) {d : Nat} (hd : d ≤ 100) (hx : ExprAt L d) {G : Heap} {i a : Nat} (hi : i < G.length) (ha : a + 2 + 4 ^ (d + 1) ≤ 5000) {k : Int} (hk0 : 5 ≤ k) (hk : k < 7) :
    WayAt L (d + 1) G i a (a + 2 + 4 ^ (d + 1)) (law04_picker_expr_j1 G.length (.ptr i 0 0) (.int .i64 ((d + 1 : Nat) : Int)) (.ptr G.length 0 0) (.int .i64 k) (.var [.int .i64 0, .str [], .nils, .int .i64 0, .int .i64 0, .nils] :: hset G i (pickB L a))) := by
  have h4 := one4 d
  have h5 : 4 ^ (d + 1) = 4 * 4 ^ d := by rw [Nat.pow_succ]; omega
  obtain ⟨p, p0, p1, ep⟩ := c_pick hL hl (a := a) (by omega) (n := 5) (by omega) (pick_g (b := .var [.int .i64 0, .str [], .nils, .int .i64 0, .int .i64 0, .nils]) (L := L) hi)
  rw [pick_o hi] at ep
  obtain ⟨q, q0, q1, eq⟩ := c_pick hL hl (a := a + 1) (by omega) (n := 3) (by omega) (pick_g (b := .var [.int .i64 0, .str [], .nils, .int .i64 0, .int .i64 0, .nils]) (L := L) hi)
  rw [pick_o hi] at eq
  obtain ⟨e, a1, h1, h2, h3, h4', h6⟩ := hx (.var [.int .i64 0, .str [], .nils, .int .i64 0, .int .i64 0, .nils] :: hset G i (pickB L (a + 1 + 1))) i (a + 1 + 1) (pick_g hi) (by omega)
  rw [pick_o hi] at h6
  have w1 : IntKind.i64.wrap (p - 1) = p - 1 := wrap_i64 (by omega) (by omega)
  have w2 : IntKind.i64.wrap (((d + 1 : Nat) : Int) - 1) = (d : Int) := by rw [wrap_i64 (by omega) (by omega)]; omega
  have n2 : ¬ k < 2 := by omega
  have n3 : ¬ k = 2 := by omega
  have n4 : ¬ k = 3 := by omega
  have n5 : ¬ k = 4 := by omega
  have l1 : oLit 6 1 (.agg [.int .i64 0, .str [], .vs [], .int .i64 0, .int .i64 0, .vs []]) [(0, encE e)] = some (.vs (encEs [e])) := (isE_enc e).lit1 _
  rw [law04_picker_expr_j1_eq]
  refine ⟨.mk 3 [] [] (if (if p - 1 < 0 then 0 else p - 1) < q then (if p - 1 < 0 then 0 else p - 1) else q) (p - 1) [e], a1, by omega, by omega, ?_, by simp only [Te.wE, Te.wEs, List.length_nil]; omega, ?_⟩
  · simp only [Te.right, List.all_cons, List.all_nil, h3, Bool.and_true, Bool.true_and]
    simp only [Te.own, List.length_cons, List.length_nil]
    rw [if_neg (by omega), if_pos trivial]
    simp only [decide_true, Bool.true_and, Bool.and_eq_true, Bool.or_eq_true, decide_eq_true_eq]
    split <;> split <;> omega
  · have mx : oMax [.int .i64 (p - 1), .int .i64 0] = some (.int .i64 (if p - 1 < 0 then 0 else p - 1)) := by rw [Qfm]
    simp (maxDischargeDepth := 9) only [Qah, Qag, Qab, Qbe, Qbd, Qfp, Qeo, Qee, Qei, Qdc, Qao, Qgr, Qgq, Qgv, Qhe, Qhb, Qhf, Qdl, Qdu, Qdr, Qdw, Qdh, Qdg, Qdf, Qhk, Qhi, Qcv, Qcu, Qcm, Qcq, Qfy, Qhl, Qfn, decide_true, decide_false, if_true, List.drop_zero, List.drop_succ_cons, List.length_cons, List.length_nil, Nat.zero_add, Bool.and_true, List.append_nil, Nat.reduceAdd, hset_length, oLoad_ptr, oStore_ptr, List.drop_nil, le_s, Nat.le_refl, Nat.zero_le, or_true, true_or, and_true, and_self, Nat.max_self, List.take_zero, List.take_succ_cons, n2, n3, n4, n5, hk, ep, w1, eq, mx, w2, h6, l1, bE_rep, rt_nk]
theorem j1_many (hL : ∀ n ∈ L, 0 ≤ n ∧ n ≤ 255) (hl : L.length ≤ 9223372036854775807) {d : Nat} (hd : d ≤ 100) (hx : ExprAt L d) {G : Heap} {i a : Nat} (hi : i < G.length) (ha : a + 1 + 3 * 4 ^ (d + 1) ≤ 5000) {k : Int} (hk0 : 7 ≤ k) (hk : k < 12) :
    WayAt L (d + 1) G i a (a + 1 + 3 * 4 ^ (d + 1)) (law04_picker_expr_j1 G.length (.ptr i 0 0) (.int .i64 ((d + 1 : Nat) : Int)) (.ptr G.length 0 0) (.int .i64 k) (.var [.int .i64 0, .str [], .nils, .int .i64 0, .int .i64 0, .nils] :: hset G i (pickB L a))) := by
  have h4 := one4 d
  have h5 : 4 ^ (d + 1) = 4 * 4 ^ d := by rw [Nat.pow_succ]; omega
  have m2 : 0 ≤ k % 2 ∧ k % 2 < 2 := ⟨Int.emod_nonneg _ (by omega), Int.emod_lt_of_pos _ (by omega)⟩
  obtain ⟨q, q0, q1, eq⟩ := c_pick (G := .var [.int .i64 (1 + k % 2), .str [], .nils, .int .i64 0, .int .i64 0, .nils] :: .var [.int .i64 0, .str [], .nils, .int .i64 0, .int .i64 0, .nils] :: hset G i (pickB L a)) (i := i) hL hl (a := a) (by omega) (n := 2) (by omega) (by rw [Qcn (by simp; omega), pick_g hi])
  rw [Qcr (by simp; omega), pick_o hi] at eq
  obtain ⟨c, hc⟩ : ∃ c : Nat, (c : Int) = 1 + q := ⟨(1 + q).toNat, by omega⟩
  have hmul : (c + 1) * 4 ^ (d + 1) ≤ 3 * 4 ^ (d + 1) := Nat.mul_le_mul_right _ (by omega)
  have hmul2 : (c + 1) * (5 * 4 ^ d) ≤ 3 * (5 * 4 ^ d) := Nat.mul_le_mul_right _ (by omega)
  obtain ⟨ks, a', k1, k2, k3, k4, k5, k6⟩ := expr_l1 hd hx (kk := 1 + k % 2) hi c (a + 1) (by omega) (by omega)
  have w0 : IntKind.i64.wrap (1 + k % 2) = 1 + k % 2 := wrap_i64 (by omega) (by omega)
  have w2 : IntKind.i64.wrap (2 + q) = ((c + 1 : Nat) : Int) := by rw [wrap_i64 (by omega) (by omega)]; omega
  have n2 : ¬ k < 2 := by omega
  have n3 : ¬ k = 2 := by omega
  have n4 : ¬ k = 3 := by omega
  have n5 : ¬ k = 4 := by omega
  have n7 : ¬ k < 7 := by omega
  rw [law04_picker_expr_j1_eq]
  refine ⟨.mk (1 + k % 2) [] [] 0 0 ks, a', by omega, by omega, ?_, by simp only [Te.wE, List.length_nil]; omega, ?_⟩
  · simp only [Te.right, k4, Bool.true_and]
    simp only [Te.own]
    rw [if_pos (by omega)]
    simp only [decide_true, Bool.true_and, decide_eq_true_eq]
    omega
  · simp (maxDischargeDepth := 9) only [Qah, Qag, Qab, Qbd, Qfp, Qea, Qeo, Qee, Qei, Qao, Qgr, Qgq, Qgv, Qhe, Qhb, Qdl, Qdu, Qdr, Qdh, Qdg, Qdf, Qhk, Qhi, Qcm, Qcq, Qfy, decide_false, if_true, List.drop_succ_cons, List.length_cons, List.length_nil, Nat.zero_add, Bool.and_true, List.append_nil, Nat.reduceAdd, hset_length, oLoad_ptr, oStore_ptr, List.drop_nil, le_s, Nat.le_refl, Nat.zero_le, or_true, and_self, Nat.max_self, n2, n3, n4, n5, n7, oBin_rem _ _ _ _ (show (2 : Int) ≠ 0 by omega), Int.tmod_eq_emod_of_nonneg (show 0 ≤ k by omega), w0, bE_kind, eq, w2, k6]
theorem c_expr (hL : ∀ n ∈ L, 0 ≤ n ∧ n ≤ 255) (hl : L.length ≤ 9223372036854775807) : ∀ d : Nat, d ≤ 100 → ExprAt L d
  | d, hd, G, i, a, hg, ha => by
    have hi := hget_lt hg
    have h4 := one4 d
    have h5 : 4 ^ (d + 1) = 4 * 4 ^ d := by rw [Nat.pow_succ]; omega
    obtain ⟨k, k0, k1, ek⟩ := c_pick (G := .var [.int .i64 0, .str [], .nils, .int .i64 0, .int .i64 0, .nils] :: G) (i := i) hL hl (a := a) (by omega) (n := 12) (by omega) (by rw [Qcn hi]; exact hg)
    rw [Qcr hi] at ek
    have hm5 : 0 ≤ k % 5 ∧ k % 5 < 5 := ⟨Int.emod_nonneg _ (by omega), Int.emod_lt_of_pos _ (by omega)⟩
    have goal : ∀ (kk : Int), (k' : kk = (if (d : Int) < 1 then k % 5 else k)) → WayAt L d G i (a + 1) (a + 4 ^ (d + 1)) (law04_picker_expr_j1 G.length (.ptr i 0 0) (.int .i64 d) (.ptr G.length 0 0) (.int .i64 kk) (.var [.int .i64 0, .str [], .nils, .int .i64 0, .int .i64 0, .nils] :: hset G i (pickB L (a + 1)))) := fun kk hkk => by
      by_cases hlf : kk < 5
      · obtain ⟨e, a', q1, q2, q3, q4, q5⟩ := j1_leaf hL hl (d := d) (D := .int .i64 d) hi (a := a + 1) (by omega) (k := kk) (by rw [hkk]; split <;> omega) hlf
        exact ⟨e, a', q1, by omega, q3, q4, q5⟩
      · obtain ⟨d, rfl⟩ : ∃ q, d = q + 1 := by
          cases d with
          | zero => rw [hkk, if_pos (by simp)] at hlf; omega
          | succ d => exact ⟨d, rfl⟩
        have hkk : kk = k := by rw [hkk, if_neg (by omega)]
        subst hkk
        have hx := c_expr hL hl d (by omega)
        have h6 : 4 ^ (d + 1 + 1) = 4 * 4 ^ (d + 1) := by rw [Nat.pow_succ]; omega
        have h7 := four d
        by_cases h8 : kk < 7
        · obtain ⟨e, a', q1, q2, q3, q4, q5⟩ := j1_rep hL hl (by omega) hx hi (a := a + 1) (by omega) (by omega) h8
          exact ⟨e, a', q1, by omega, q3, q4, q5⟩
        · obtain ⟨e, a', q1, q2, q3, q4, q5⟩ := j1_many hL hl (by omega) hx hi (a := a + 1) (by omega) (by omega) k1
          exact ⟨e, a', q1, by omega, q3, q4, q5⟩
    rw [law04_picker_expr_E, law04_picker_expr_eq]
    by_cases hd1 : (d : Int) < 1
    · obtain ⟨e, a', q1, q2, q3, q4, q5⟩ := goal (k % 5) (by rw [if_pos hd1])
      refine ⟨e, a', by omega, by omega, q3, q4, ?_⟩
      simp (maxDischargeDepth := 9) only [Qah, Qag, Qab, Qbe, Qei, Qao, Qgr, Qgq, Qgv, Qhe, Qhb, Qfy, decide_true, Bool.and_true, ek, hd1, oBin_rem _ _ _ _ (show (5 : Int) ≠ 0 by omega), Int.tmod_eq_emod_of_nonneg k0, q5]
    · obtain ⟨e, a', q1, q2, q3, q4, q5⟩ := goal k (by rw [if_neg hd1])
      refine ⟨e, a', by omega, by omega, q3, q4, ?_⟩
      simp (maxDischargeDepth := 9) only [Qah, Qag, Qab, Qbd, Qei, Qao, Qgr, Qgq, Qgv, Qhe, Qhb, Qfy, decide_false, Bool.and_true, ek, hd1, q5]
end Go.Proofs.YthcjjicplodhjaaDoor
end

section
/- Rules by numbers. -/
namespace Go.Proofs.YthcjjicplodhjaaDoor
open Go Go.Ev
set_option linter.unusedVariables false
set_option linter.unusedSimpArgs false
variable {L : List Int}

theorem rows_push {α : Type} {f : α → V} {sz b : Nat} {G : Heap} {v : V} {l : List α} (h : RowsAt f sz b G v l) (x : Blk) : RowsAt f sz b (x :: G) v l := by
  rcases h with h | ⟨h0, j, ver, h1, h2, h3⟩
  · exact .inl h
  · exact .inr ⟨h0, j, ver, h1, h2, by rw [hget_old x (hget_lt h3)]; exact h3⟩
/-- What a rule by numbers is. -/
def madeOk (x : Rd.Line) : Prop := Te.name x.name = true ∧ Te.right 3 x.expr = true ∧ Te.wL x ≤ 325
theorem made_l (hL : ∀ n ∈ L, 0 ≤ n ∧ n ≤ 255) (hl : L.length ≤ 9223372036854775807) {n0 : Nat} {H : Heap} : ∀ (c : Nat) (G : Heap) (v : V) (l : List Rd.Line) (a : Nat), hget G n0 = some (pickB L a) → RowsAt encL 8 (n0 + 1) G v l → htrunc G n0 = H → l.length + c ≤ 10 → a + c * 258 ≤ 3000 →
    ∃ ms : List Rd.Line, ms.length = c ∧ (∀ x ∈ ms, madeOk x) ∧ law04_Made_l1 n0 (.ptr n0 0 0) v (.int .i64 c) G = some (.ret (.vs ((l ++ ms).map encL)), H)
  | 0, G, v, l, a, hg, hr, ht, hlc, ha => by
    refine ⟨[], rfl, by simp, ?_⟩
    rw [law04_Made_l1_eq, List.append_nil]
    have hz := hr.frz encL_ok (base := n0) (n := 10) (by omega)
    have hrt : rt false n0 v G = some (.ret (.vs (l.map encL)), htrunc G n0) := rt_frz hz (Nat.zero_le _)
    rw [ht] at hrt
    simp (maxDischargeDepth := 9) only [Qah, Qag, Qbd, Qfp, Qew, Qeo, Qeg, Qao, Qgr, Qgq, Qgs, Qgv, Qhe, Qhb, Qhk, Qhi, Qam, Qcm, Qcq, Qfy, Qep, decide_false, List.length_cons, List.length_nil, Nat.zero_add, Bool.and_true, Nat.reduceAdd, oLoad_ptr, oStore_ptr, Nat.le_refl, and_true, and_self, Int.lt_irrefl, hrt]
  | c + 1, G, v, l, a, hg, hr, ht, hlc, ha => by
    have hi := hget_lt hg
    have hmul : (c + 1) * 258 = c * 258 + 258 := Nat.succ_mul _ _
    obtain ⟨r, r0, r1, er⟩ := c_pick hL hl (a := a) (by omega) (n := 5) (by omega) hg
    obtain ⟨q, q0, q1, eq⟩ := c_pick (G := hset G n0 (pickB L (a + 1))) (i := n0) hL hl (a := a + 1) (by omega) (n := 5) (by omega) (Qco hi)
    rw [Qcs] at eq
    obtain ⟨t, ht1, et⟩ := idx_str (l := names5) (i := r) (k := .i64) r0 (by exact r1)
    obtain ⟨t1, t2⟩ := names5_ok t ht1
    obtain ⟨e, a3, h1, h2, h3, h4, h5⟩ := c_expr hL hl 3 (by omega) (.var [.str t, .bool (decide (q = 4)), .int .i64 0, .str [], .nils, .int .i64 0, .int .i64 0, .nils] :: hset G n0 (pickB L (a + 1 + 1))) n0 (a + 1 + 1) (pick_g hi) (by simp; omega)
    rw [pick_o hi] at h5
    simp only [Qam] at h5
    have h2' : a3 ≤ a + 258 := by simp at h2; omega
    have h4' : Te.wE e ≤ 320 := by simpa using h4
    have hb : oBuild [.str [], .bool false, .int .i64 0, .str [], .nils, .int .i64 0, .int .i64 0, .nils] [(0, 1), (1, 1), (2, 6)] [(0, .str t), (1, .bool (decide (q = 4)))] = some (.agg [.str t, .bool (decide (q = 4)), .int .i64 0, .str [], .nils, .int .i64 0, .int .i64 0, .nils]) := by simp [splice]
    have hr3 : RowsAt encL 8 (n0 + 1) (.var (.str t :: .bool (decide (q = 4)) :: (encE e).cells) :: hset G n0 (pickB L a3)) v l := rows_push (hr.set _ (by omega)) _
    obtain ⟨v', G', o1, o2, o3, o4, o5⟩ := hr3.app encL_ok (base := n0) (by_ := 112) (a := ⟨t, decide (q = 4), e⟩) (by simp; omega) (by simp [roomOk]; omega)
    obtain ⟨ms, k1, k2, k3⟩ := made_l hL hl c G' v' (l ++ [⟨t, decide (q = 4), e⟩]) a3 (by
      rw [o3 n0 (by omega), Qcn (by simpa using hi), Qco hi]) o2 (by
      rw [o4 n0 (by omega), htrunc_cons (by simp; omega), htrunc_set _ (Nat.le_refl _) hi, ht]) (by simp; omega) (by omega)
    refine ⟨⟨t, decide (q = 4), e⟩ :: ms, by simp [k1], fun x hx => ?_, ?_⟩
    · rcases List.mem_cons.1 hx with rfl | hx
      · exact ⟨t1, h3, by simp only [Te.wL]; omega⟩
      · exact k2 x hx
    · have hp : (0 : Int) < ((c + 1 : Nat) : Int) := by omega
      have w2 : IntKind.i64.wrap (((c + 1 : Nat) : Int) - 1) = (c : Int) := by rw [wrap_i64 (by omega) (by omega)]; omega
      have ec : V.agg (.str t :: .bool (decide (q = 4)) :: (encE e).cells) = encL ⟨t, decide (q = 4), e⟩ := rfl
      have lit := fun z => encL_ok.lit z (⟨t, decide (q = 4), e⟩ : Rd.Line)
      rw [law04_Made_l1_eq]
      simp only [List.append_assoc, List.cons_append, List.nil_append] at k3
      have hn0 : n0 ≤ G.length := by omega
      cases e with
      | mk ek ett en elo ehi eks =>
        simp only [encE, Qao] at ec o1 h5 lit
        have lit' : ∀ z, oLit 8 1 z [(0, .agg [.str t, .bool (decide (q = 4)), .int .i64 ek, .str ett, encI en, .int .i64 elo, .int .i64 ehi, .vs (encEs eks)])] = some (.vs [encL ⟨t, decide (q = 4), .mk ek ett en elo ehi eks⟩]) := lit
        simp (maxDischargeDepth := 9) only [Qah, Qag, Qab, Qbe, Qhg, Qgp, Qew, Qeo, Qee, Qeg, Qdc, Qfk, Qhm, Qao, Qgr, Qgq, Qgs, Qgv, Qhe, Qhb, Qhf, Qdi, Qdl, Qdu, Qdr, Qdw, Qdh, Qdg, Qdf, Qhk, Qhi, Qhh, Qcm, Qcq, Qfy, Qhl, Qbs, Qbr, decide_true, if_true, List.drop_zero, List.drop_succ_cons, List.length_cons, List.length_nil, Nat.zero_add, Bool.and_true, List.append_nil, Nat.reduceAdd, hset_length, oLoad_ptr, oStore_ptr, List.drop_nil, le_s, Nat.le_refl, Nat.zero_le, or_true, and_self, Nat.max_self, List.take_zero, List.take_succ_cons, hp, lit_names5, er, et, eq, hb, h5, hi, hn0, lit', o1, w2, k3]
theorem c_Made (hL : ∀ n ∈ L, 0 ≤ n ∧ n ≤ 255) (hl : L.length ≤ 9223372036854775807) (H : Heap) : ∃ ms : List Rd.Line, 0 < ms.length ∧ ms.length ≤ 5 ∧ (∀ x ∈ ms, madeOk x) ∧ E n_law04_Made [.vs (L.map (V.int .u8))] H = some (.ret (.vs (ms.map encL)), H) := by
  obtain ⟨r, r0, r1, er⟩ := c_pick (G := pickB L 0 :: H) (i := H.length) hL hl (a := 0) (by omega) (n := 5) (by omega) (by simp)
  rw [Qct] at er
  obtain ⟨c, hc⟩ : ∃ c : Nat, (c : Int) = 1 + r := ⟨(1 + r).toNat, by omega⟩
  obtain ⟨ms, k1, k2, k3⟩ := made_l hL hl (n0 := H.length) (H := H) c (pickB L (0 + 1) :: H) .nils [] (0 + 1) (by simp) (.inl ⟨rfl, rfl⟩) (by rw [htrunc_cons (Nat.le_refl _), Qda]) (by simp; omega) (by omega)
  refine ⟨ms, by omega, by omega, k2, ?_⟩
  have w1 : IntKind.i64.wrap (1 + r) = (c : Int) := by rw [wrap_i64 (by omega) (by omega), hc]
  rw [law04_Made_E, law04_Made_eq]
  simp only [List.nil_append] at k3
  have hb : ∀ v : V, v.cells = [v] → v.scal = true → oBuild [.nils, .int .i64 0] [(0, 1), (1, 1)] [(0, v)] = some (.agg [v, .int .i64 0]) := fun v h1 h2 => by simp [splice, h1, h2]
  have hb' := hb (.vs (L.map (V.int .u8))) rfl rfl
  have er : E n_law04_picker_pick [.ptr H.length 0 0, .int .i64 5] (.var [.vs (L.map (V.int .u8)), .int .i64 0] :: H) = some (.ret (.int .i64 r), pickB L (0 + 1) :: H) := er
  simp (maxDischargeDepth := 9) only [Qah, Qag, Qab, Qea, Qao, Qgr, Qgq, Qgv, Qhf, Qfy, Nat.zero_add, Bool.and_true, hb', er, w1, k3]
end Go.Proofs.YthcjjicplodhjaaDoor
end

section
/- The stage's theorem: what is told is read as it was. -/
namespace Go.Proofs.YthcjjicplodhjaaDoor
open Go Go.Ev
set_option linter.unusedVariables false
set_option linter.unusedSimpArgs false

theorem ok_of : ∀ (e : Rd.Expr), Te.wE e ≤ 900000 → e.Ok
  | .mk k t n lo hi ks, h => by
    simp only [Te.wE] at h
    have := Te.wEs_len ks
    exact .mk (by omega) (by omega) fun x hx => ok_of x (by have := Te.wEs_mem hx; omega)
theorem right_le {e : Rd.Expr} {d : Nat} (h : Te.right d e = true) : ∀ n, Te.right (d + n) e = true
  | 0 => h
  | n + 1 => Te.right_up _ (right_le h n)
theorem made_w : ∀ {ms : List Rd.Line}, (∀ x ∈ ms, madeOk x) → Te.wLs ms ≤ 325 * ms.length
  | [], _ => by simp [Te.wLs]
  | x :: ms, h => by
    have h1 := made_w (ms := ms) fun y hy => h y (by simp [hy])
    have h2 := (h x (by simp)).2.2
    simp only [Te.wLs, List.length_cons]
    omega
theorem made_ok {ms : List Rd.Line} (h : ∀ x ∈ ms, madeOk x) : ms.all Te.lineOk = true := List.all_eq_true.2 fun x hx => by
  obtain ⟨h1, h2, _⟩ := h x hx
  simp only [Te.lineOk, h1, Bool.true_and]
  exact right_le h2 47
theorem lines_le : ∀ {ms : List Rd.Line}, ms.all Te.lineOk = true → ((ms.map Te.lineT).flatten).length ≤ 17 * Te.wLs ms
  | [], _ => by simp
  | x :: ms, h => by
    simp only [List.all_cons, Bool.and_eq_true] at h
    have h1 := lines_le h.2
    have h2 := Te.lineT_len itoa3 h.1
    simp only [List.map_cons, List.flatten_cons, List.length_append, Te.wLs]
    omega
theorem law_TellerBack {L : List Int} (hL : ∀ n ∈ L, 0 ≤ n ∧ n ≤ 255) (hl : L.length ≤ 9223372036854775807) (H : Heap) : E n_law04_TellerBack [.vs (L.map (V.int .u8))] H = some (.ret (.bool true), H) := by
  obtain ⟨ms, m0, m5, hok, hmade⟩ := c_Made hL hl H
  have hw := made_w hok
  have ha := made_ok hok
  have hlen := lines_le ha
  have et : Te.tell ms = ((ms.map Te.lineT).flatten, 0) := by unfold Te.tell; rw [if_pos ha]
  have hr := Te.read_tell ha (by omega) (by rw [et]; simp only; omega)
  have hT := fun H => c4_Tell (l := ms) (by omega) H
  have hR := fun H => r_Read (Te.tell ms).1 H
  rw [hr] at hR
  have hS := fun H => c_SameLines (l := ms) (by omega) (fun x hx => ok_of _ (by
    have := Te.wLs_mem hx
    simp only [Te.wL] at this
    omega)) H
  rw [et] at hT hR
  rw [law04_TellerBack_E, law04_TellerBack_eq]
  simp (maxDischargeDepth := 9) only [Qah, Qab, Qbd, Qcl, Qfp, Qfu, Qfx, Qet, Qeu, Qee, Qda, Qgf, decide_true, Bool.not_true, l4_awake, hmade, hT, hR, hS]
end Go.Proofs.YthcjjicplodhjaaDoor
end

