/- Tx: a part of the proof that each law of this seat answers true at every input. No condition. -/
import Derived.Test.YthcjjicplodhjaaDoorTd
set_option linter.unusedVariables false
set_option linter.unusedSimpArgs false
set_option maxRecDepth 20000
section
/- The statement about expressions that stand in one another, very deeply. -/
namespace Go.Proofs.YthcjjicplodhjaaDoor
open Go Go.Ev
set_option linter.unusedVariables false
set_option linter.unusedSimpArgs false

theorem deep_l {n k : Int} (hn : 0 ≤ n ∧ n ≤ 255) (hk : 0 ≤ k ∧ k ≤ 255) {H : Heap} : ∀ (m i : Nat), 100 - i = m → i ≤ 60 → ∀ (cs : List V) (e : Rd.Expr), IsE (.agg cs) e → Te.wE e ≤ 2 + 2 * i →
    law04_TellerDeep_l1 H.length (.int .u8 n) (.int .u8 k) (.ptr H.length 0 0) (.int .i64 i) (.var cs :: H) = some (.ret (.bool true), H)
  | m, i, hm, hi, cs, e, he, hw => by
    obtain ⟨c0, c1, c2, c3, c4, c5, rfl⟩ := he.cs
    have hlen : ([c0, c1, c2, c3, c4, c5] : List V).length = 6 := rfl
    have w1 : IntKind.i64.wrap n = n := wrap_i64 (by omega) (by omega)
    have hm21 : 0 ≤ n % 21 ∧ n % 21 < 21 := ⟨Int.emod_nonneg _ (by omega), Int.emod_lt_of_pos _ (by omega)⟩
    have hm3 : 0 ≤ k % 3 ∧ k % 3 < 3 := ⟨Int.emod_nonneg _ (by omega), Int.emod_lt_of_pos _ (by omega)⟩
    have w2 : IntKind.i64.wrap (n % 21) = n % 21 := wrap_i64 (by omega) (by omega)
    have w3 : IntKind.i64.wrap (40 + n % 21) = 40 + n % 21 := wrap_i64 (by omega) (by omega)
    have w4 : IntKind.u8.wrap (k % 3) = k % 3 := by rw [show IntKind.u8.wrap (k % 3) = (k % 3) % 256 by simp [IntKind.wrap, IntKind.signed, IntKind.bits]]; omega
    have r1 : oBin .rem 6 (.int .i64 n) (.int .i64 21) = some (.int .i64 (n % 21)) := by
      rw [oBin_rem _ _ _ _ (by omega), Int.tmod_eq_emod_of_nonneg hn.1]
    have r2 : oBin .rem 6 (.int .u8 k) (.int .u8 3) = some (.int .u8 (k % 3)) := by
      rw [oBin_rem _ _ _ _ (by omega), Int.tmod_eq_emod_of_nonneg hk.1]
    have q10 : ¬ (1 : Int) = 0 := by omega
    rw [law04_TellerDeep_l1_eq]
    by_cases h : (i : Int) < 40 + n % 21
    · obtain ⟨m, rfl⟩ : ∃ q, m = q + 1 := ⟨m - 1, by omega⟩
      have ih := fun cs e h1 h2 => deep_l hn hk (H := H) m (i + 1) (by omega) (by omega) cs e h1 h2
      have wi : IntKind.i64.wrap ((i : Int) + 1) = ((i + 1 : Nat) : Int) := wrap_in (n := 100) (by omega) (by omega)
      by_cases h0 : k % 3 = 0
      · have j := ih [.int .i64 3, .str [], .nils, .int .i64 0, .int .i64 (-1), .vs (encEs [e])] (.mk 3 [] [] 0 (-1) [e]) (isE_nk 3 [] 0 (-1) [e]) (by simp only [Te.wE, Te.wEs, List.length_nil]; omega)
        simp (maxDischargeDepth := 9) only [bnd_some, beff_some, cnd_true, oIntTo_int, oBin_add, oBin_eql, oBin_lss, loadB_var, cells_agg, scalL_nil, scalL_cons, scal_int, scal_str, scal_nils, scal_vs, storeB_var, splice_zero, hget_at, hset_at, takeC, decide_true, if_true, List.drop_zero, List.drop_succ_cons, List.length_cons, List.length_nil, Nat.zero_add, Bool.and_true, List.append_nil, Nat.reduceAdd, oLoad_ptr, oStore_ptr, List.drop_nil, Nat.le_refl, true_or, and_true, and_self, List.take_zero, List.take_succ_cons, w1, r1, w3, h, r2, h0, he.lit1, bE_max, law04_TellerDeep_j2_eq, wi, j]
      · by_cases h1 : k % 3 = 1
        · have j := ih [.int .i64 1, .str [], .nils, .int .i64 0, .int .i64 0, .vs (encEs [e, .mk 5 [] [] 0 0 []])] (.mk 1 [] [] 0 0 [e, .mk 5 [] [] 0 0 []]) (isE_nk 1 [] 0 0 _) (by simp only [Te.wE, Te.wEs, List.length_nil]; omega)
          simp (maxDischargeDepth := 9) only [bnd_some, beff_some, cnd_true, cnd_false, oIntTo_int, oBin_add, oBin_eql, oBin_lss, loadB_var, cells_agg, scalL_nil, scalL_cons, scal_int, scal_str, scal_nils, scal_vs, storeB_var, splice_zero, hget_at, hset_at, takeC, decide_true, decide_false, if_true, List.drop_zero, List.drop_succ_cons, List.length_cons, List.length_nil, Nat.zero_add, Bool.and_true, List.append_nil, Nat.reduceAdd, oLoad_ptr, oStore_ptr, List.drop_nil, Nat.le_refl, true_or, and_true, and_self, List.take_zero, List.take_succ_cons, w1, r1, w3, h, r2, h1, q10, bE_kind, he.lit2 (isE_nn 5 [] 0 0), bE_kids, law04_TellerDeep_j2_eq, wi, j]
        · have j := ih [.int .i64 2, .str [], .nils, .int .i64 0, .int .i64 0, .vs (encEs [.mk 5 [] [] 0 0 [], e])] (.mk 2 [] [] 0 0 [.mk 5 [] [] 0 0 [], e]) (isE_nk 2 [] 0 0 _) (by simp only [Te.wE, Te.wEs, List.length_nil]; omega)
          simp (maxDischargeDepth := 9) only [bnd_some, beff_some, cnd_true, cnd_false, oIntTo_int, oBin_add, oBin_eql, oBin_lss, loadB_var, cells_agg, scalL_nil, scalL_cons, scal_int, scal_str, scal_nils, scal_vs, storeB_var, splice_zero, hget_at, hset_at, takeC, decide_true, decide_false, if_true, List.drop_zero, List.drop_succ_cons, List.length_cons, List.length_nil, Nat.zero_add, Bool.and_true, List.append_nil, Nat.reduceAdd, oLoad_ptr, oStore_ptr, List.drop_nil, Nat.le_refl, true_or, and_true, and_self, List.take_zero, List.take_succ_cons, w1, r1, w3, h, r2, h0, h1, bE_kind, (isE_nn 5 [] 0 0).lit2 he, bE_kids, law04_TellerDeep_j2_eq, wi, j]
    · have s1 := fun H => l4_same (l := [⟨[97], false, e⟩]) (by simp only [Te.wLs, Te.wL, List.length_cons, List.length_nil]; omega) H
      simp (maxDischargeDepth := 9) only [bnd_some, bcall_ret, cnd_false, gua_yes, oPick_t, oIntTo_int, oBin_add, oBin_lss, htrunc_self, loadB_var, rt_bool, storeB_var, splice_zero, htrunc_c, hget_at, hset_at, takeC, decide_false, List.drop_zero, List.length_cons, List.length_nil, Nat.zero_add, Nat.reduceAdd, oLoad_ptr, oStore_ptr, Nat.le_refl, true_or, and_true, and_self, List.take_zero, List.take_succ_cons, w1, r1, w3, h, l4_awake, he.line, he.litL, s1]
theorem law_TellerDeep (n : Int) (hn : 0 ≤ n ∧ n ≤ 255) (k : Int) (hk : 0 ≤ k ∧ k ≤ 255) (H : Heap) : E n_law04_TellerDeep [.int .u8 n, .int .u8 k] H = some (.ret (.bool true), H) := by
  rw [law04_TellerDeep_E, law04_TellerDeep_eq]
  have j := deep_l hn hk (H := H) 100 0 (by omega) (by omega) [.int .i64 5, .str [120], .nils, .int .i64 0, .int .i64 0, .nils] (.mk 5 [120] [] 0 0 []) (isE_nn 5 [120] 0 0) (by simp [Te.wE, Te.wEs])
  simp only [cast_lit] at j
  simp (maxDischargeDepth := 9) only [bnd_some, beff_some, cells_agg, scalL_nil, scalL_cons, scal_int, scal_str, scal_nils, mr_int, mr_str, mr_nils, mr_agg, mrL_nil, mrL_cons, storeB_var, splice_zero, hget_at, hset_at, oVar_c, if_true, List.drop_succ_cons, List.length_cons, List.length_nil, Nat.zero_add, Bool.and_true, List.append_nil, Nat.reduceAdd, oStore_ptr, List.drop_nil, le_s, Nat.le_refl, Nat.zero_le, or_true, and_self, Nat.max_self, bE_text, j]
end Go.Proofs.YthcjjicplodhjaaDoor
end

