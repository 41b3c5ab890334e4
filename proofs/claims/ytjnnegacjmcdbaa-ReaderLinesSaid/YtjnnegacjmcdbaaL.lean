/- L: a part of the proof that each law of this seat answers true at every input. No condition. -/
import Derived.Test.YtjnnegacjmcdbaaRc
import Derived.Test.YtjnnegacjmcdbaaCc
import Derived.Test.YtjnnegacjmcdbaaRd
import Derived.Test.YtjnnegacjmcdbaaEvH
set_option linter.unusedVariables false
set_option linter.unusedSimpArgs false
set_option maxRecDepth 20000
section
/- The laws' own functions: what is the same. -/
namespace Go.Proofs.Ytjnnegacjmcdbaa
open Go Go.Ev
set_option linter.unusedVariables false
set_option linter.unusedSimpArgs false

theorem encEs_length (l : List Rd.Expr) : (encEs l).length = l.length := by rw [encEs_map, List.length_map]
theorem len_encI (l : List Int) : oLenSl (encI l) = some (.int .i64 l.length) := by simp [encI]
theorem len_encEs (l : List Rd.Expr) : oLenSl (.vs (encEs l)) = some (.int .i64 l.length) := by simp [encEs_length]
theorem idx_encI {l : List Int} {i : Nat} {x : Int} (h : l[i]? = some x) : oIndexPtr 1 (encI l) (.int .i64 i) = some (.fptr [.int .i64 x]) :=
  oIndexPtr_vs (y := .int .i64 x) (by simp [h]) rfl
theorem idx_encEs {l : List Rd.Expr} {i : Nat} {x : Rd.Expr} (h : l[i]? = some x) : oIndexPtr 6 (.vs (encEs l)) (.int .i64 i) = some (.fptr (encE x).cells) :=
  oIndexPtr_vs (y := encE x) (by rw [encEs_map]; simp [h]) (by simp)
theorem take_encE (x : Rd.Expr) : takeCells true 6 (encE x).cells = some (encE x) := by cases x; rfl

theorem c_Same_1 {b : Nat} {cs : List V} {H : Heap} {n : List Int} (h1 : hget H b = some (.var cs)) (h2 : hget H (b + 1) = some (.var cs)) (hc : cs[2]? = some (encI n)) (hl : cs.length = 6) (hn : n.length < 1000000) : ∀ (m i : Nat), n.length - i = m → i ≤ n.length →
    ref03_Same_l1 b (.ptr b 0 0) (.ptr (b + 1) 0 0) (.int .i64 i) H = ref03_Same_l2 b (.ptr b 0 0) (.ptr (b + 1) 0 0) (.int .i64 0) H
  | m, i, hm, hi => by
    match cs, hl, hc with
    | [c0, c1, c2, c3, c4, c5], _, hc =>
      have hc' : c2 = encI n := by simpa using hc
      subst hc'
      rw [ref03_Same_l1_eq]
      by_cases h : i < n.length
      · have h' : (i : Int) < (n.length : Int) := by omega
        obtain ⟨m, rfl⟩ : ∃ k, m = k + 1 := ⟨m - 1, by omega⟩
        have hx : n[i]? = some n[i] := List.getElem?_eq_getElem h
        have ih := c_Same_1 h1 h2 hc rfl hn m (i + 1) (by omega) (by omega)
        simp (maxDischargeDepth := 9) only [bnd_some, cnd_true, cnd_false, oFieldPtr_ptr, oBin_add, oBin_neq, oBin_lss, loadB_var, oLoad_fptr, takeCells_1, rt_bool, decide_true, Bool.not_true, List.drop_zero, List.drop_succ_cons, Nat.zero_add, oLoad_ptr, h1, h2, len_encI, idx_encI hx, h', wrap_succ (show i < 4611686018427387904 by omega), ih]
      · have h' : ¬ (i : Int) < (n.length : Int) := by omega
        simp (maxDischargeDepth := 9) only [bnd_some, cnd_false, oFieldPtr_ptr, oBin_add, oBin_lss, loadB_var, takeCells_1, rt_bool, decide_false, List.drop_zero, List.drop_succ_cons, Nat.zero_add, oLoad_ptr, h1, h2, len_encI, h']

theorem c_Same_2 {b : Nat} {cs : List V} {H H0 : Heap} {ks : List Rd.Expr} (h1 : hget H b = some (.var cs)) (h2 : hget H (b + 1) = some (.var cs)) (hc : cs[5]? = some (.vs (encEs ks))) (hl : cs.length = 6) (hn : ks.length < 1000000) (ht : htrunc H b = H0)
    (hk : ∀ x ∈ ks, ∀ H : Heap, E n_ref03_Same [encE x, encE x] H = some (.ret (.bool true), H)) : ∀ (m i : Nat), ks.length - i = m → i ≤ ks.length →
    ref03_Same_l2 b (.ptr b 0 0) (.ptr (b + 1) 0 0) (.int .i64 i) H = some (.ret (.bool true), H0)
  | m, i, hm, hi => by
    match cs, hl, hc with
    | [c0, c1, c2, c3, c4, c5], _, hc =>
      have hc' : c5 = .vs (encEs ks) := by simpa using hc
      subst hc'
      rw [ref03_Same_l2_eq]
      by_cases h : i < ks.length
      · have h' : (i : Int) < (ks.length : Int) := by omega
        obtain ⟨m, rfl⟩ : ∃ k, m = k + 1 := ⟨m - 1, by omega⟩
        have hx : ks[i]? = some ks[i] := List.getElem?_eq_getElem h
        have hk' := hk ks[i] (List.getElem_mem h) H
        have ih := c_Same_2 h1 h2 hc rfl hn ht hk m (i + 1) (by omega) (by omega)
        simp (maxDischargeDepth := 9) only [bnd_some, bcall_ret, cnd_true, cnd_false, oFieldPtr_ptr, oUn_not, oLenSl_vs, oBin_add, oBin_lss, loadB_var, oLoad_fptr, takeCells_1, rt_bool, takeC, encE_cells, encE_agg, encE_take6, decide_true, Bool.not_true, List.drop_zero, List.drop_succ_cons, Nat.zero_add, oLoad_ptr, Nat.le_refl, h1, h2, encEs_length, idx_encEs hx, take_encE, hk', h', wrap_succ (show i < 4611686018427387904 by omega), ih]
      · have h' : ¬ (i : Int) < (ks.length : Int) := by omega
        simp (maxDischargeDepth := 9) only [bnd_some, cnd_false, oFieldPtr_ptr, oLenSl_vs, oBin_add, oBin_lss, loadB_var, takeCells_1, rt_bool, decide_false, List.drop_zero, List.drop_succ_cons, Nat.zero_add, oLoad_ptr, h1, h2, encEs_length, h', ht]
end Go.Proofs.Ytjnnegacjmcdbaa
end

section
/- The laws' own functions: lines that are the same; both readers. -/
namespace Go.Proofs.Ytjnnegacjmcdbaa
open Go Go.Ev
set_option linter.unusedVariables false
set_option linter.unusedSimpArgs false

theorem c_Same {e : Rd.Expr} (h : e.Ok) : ∀ H : Heap, E n_ref03_Same [encE e, encE e] H = some (.ret (.bool true), H) := by
  induction h with
  | @mk k t n lo hi ks hn hk _ ih =>
    intro H
    have h2 := c_Same_2 (b := H.length) (H := .var (encE (.mk k t n lo hi ks)).cells :: .var (encE (.mk k t n lo hi ks)).cells :: H) (cs := (encE (.mk k t n lo hi ks)).cells) (H0 := H) (ks := ks) (by simp) (by simp) rfl (by simp) hk (by rw [htrunc_cons (by simp), htrunc_cons (by simp), htrunc_self]) ih ks.length 0 rfl (Nat.zero_le _)
    have h1 := c_Same_1 (b := H.length) (H := .var (encE (.mk k t n lo hi ks)).cells :: .var (encE (.mk k t n lo hi ks)).cells :: H) (cs := (encE (.mk k t n lo hi ks)).cells) (n := n) (by simp) (by simp) rfl (by simp) hn n.length 0 rfl (Nat.zero_le _)
    simp only [cast_lit] at h1 h2
    rw [h2] at h1
    rw [ref03_Same_E, ref03_Same_eq]
    simp only [encE, cells_agg] at h1 ⊢
    simp (maxDischargeDepth := 9) only [bnd_some, beff_some, cnd_false, gua_yes, oPick_f, oFieldPtr_ptr, oLenSl_vs, oBin_neq, oBin_sneq, htrunc_self, loadB_var, takeCells_1, rt_bool, cells_agg, scalL_nil, scalL_cons, scal_int, scal_str, scal_vs, htrunc_c, hget_o, hget_at, oVar_c, encI_scal, decide_true, Bool.not_true, List.drop_zero, List.drop_succ_cons, List.length_cons, Nat.add_zero, Nat.zero_add, Bool.and_true, oLoad_ptr, le_s, Nat.le_refl, Nat.lt_add_one, len_encI, encEs_length, h1]

theorem idx_encL {l : List Rd.Line} {i : Nat} {x : Rd.Line} (h : l[i]? = some x) : oIndexPtr 8 (.vs (l.map encL)) (.int .i64 i) = some (.fptr (.str x.name :: .bool x.more :: (encE x.expr).cells)) :=
  oIndexPtr_vs (y := encL x) (by simp [h]) (by simp [encL])
theorem c_SameLines_l {l : List Rd.Line} (hl : l.length < 1000000) (hok : ∀ x ∈ l, x.expr.Ok) {H : Heap} : ∀ (m i : Nat), l.length - i = m → i ≤ l.length →
    ref03_SameLines_l1 H.length (.vs (l.map encL)) (.vs (l.map encL)) (.int .i64 i) H = some (.ret (.bool true), H)
  | m, i, hm, hi => by
    rw [ref03_SameLines_l1_eq]
    by_cases h : i < l.length
    · have h' : (i : Int) < (l.length : Int) := by omega
      obtain ⟨m, rfl⟩ : ∃ k, m = k + 1 := ⟨m - 1, by omega⟩
      have hx : l[i]? = some l[i] := List.getElem?_eq_getElem h
      have ih := c_SameLines_l hl hok (H := H) m (i + 1) (by omega) (by omega)
      have hs := c_Same (hok l[i] (List.getElem_mem h)) H
      simp (maxDischargeDepth := 9) only [bnd_some, bcall_ret, cnd_true, cnd_false, gua_yes, oMove_v, oPick_f, oUn_not, oLenSl_vs, oBin_add, oBin_lss, oBin_sneq, oBin_bneq, htrunc_self, oLoad_fptr, takeCells_1, rt_bool, takeC, encE_cells, encE_agg, encE_take6, decide_true, Bool.not_true, List.drop_zero, List.drop_succ_cons, List.length_cons, Nat.reduceAdd, beq_self_eq_true, le_s, Nat.le_refl, List.length_map, idx_encL hx, take_encE, hs, h', wrap_succ (show i < 4611686018427387904 by omega), ih, oFieldPtr_fptr]
    · have h' : ¬ (i : Int) < (l.length : Int) := by omega
      simp (maxDischargeDepth := 9) only [bnd_some, cnd_false, oMove_v, oLenSl_vs, oBin_add, oBin_lss, htrunc_self, rt_bool, decide_false, List.length_map, h']
theorem c_SameLines {l : List Rd.Line} (hl : l.length < 1000000) (hok : ∀ x ∈ l, x.expr.Ok) (H : Heap) : E n_ref03_SameLines [.vs (l.map encL), .vs (l.map encL)] H = some (.ret (.bool true), H) := by
  rw [ref03_SameLines_E, ref03_SameLines_eq]
  have h := c_SameLines_l hl hok (H := H) l.length 0 rfl (Nat.zero_le _)
  simp only [cast_lit] at h
  simp (maxDischargeDepth := 9) only [bnd_some, cnd_false, oLenSl_vs, oBin_neq, htrunc_self, rt_bool, decide_true, Bool.not_true, h]

theorem c_same (s : List UInt8) (H : Heap) : E n_law03_same [.str s] H = some (.ret (.bool true), H) := by
  obtain ⟨h1, h2⟩ := Rd.read_ok s
  rw [law03_same_E, law03_same_eq]
  simp (maxDischargeDepth := 9) only [bnd_some, bcall_ret, gua_yes, oMove_v, oPick_t, oExtract_0, oExtract_1, oBin_eql, htrunc_self, rt_bool, decide_true, c_reader_Read, r_Read, c_SameLines (show (Rd.read s).1.length < 1000000 by omega) h2]
end Go.Proofs.Ytjnnegacjmcdbaa
end

section
/- The laws' own functions: that the reader reads; texts put together. -/
namespace Go.Proofs.Ytjnnegacjmcdbaa
open Go Go.Ev
set_option linter.unusedVariables false
set_option linter.unusedSimpArgs false

def awB : Rd.Expr := .mk 4 [98] [] 0 0 []
def awC : Rd.Expr := .mk 5 [99] [] 0 0 []
def awR : Rd.Expr := .mk 3 [] [] 1 2 [awB]
def awL : Rd.Line := ⟨[97], false, .mk 1 [] [] 0 0 [awR, awC]⟩
theorem aw_l1 : oLit 6 1 (.agg [.int .i64 0, .str [], .vs [], .int .i64 0, .int .i64 0, .vs []]) [(0, .agg [.int .i64 4, .str [98], .nils, .int .i64 0, .int .i64 0, .nils])] = some (.vs [encE awB]) := by rw [oLit_eq]; rfl
theorem aw_l2 : oLit 6 2 (.agg [.int .i64 0, .str [], .vs [], .int .i64 0, .int .i64 0, .vs []]) [(0, .agg [.int .i64 3, .str [], .nils, .int .i64 1, .int .i64 2, .vs [encE awB]]), (1, .agg [.int .i64 5, .str [99], .nils, .int .i64 0, .int .i64 0, .nils])] = some (.vs [encE awR, encE awC]) := by rw [oLit_eq]; rfl
theorem aw_l3 : oLit 8 1 (.agg [.str [], .bool false, .int .i64 0, .str [], .vs [], .int .i64 0, .int .i64 0, .vs []]) [(0, .agg [.str [97], .bool false, .int .i64 1, .str [], .nils, .int .i64 0, .int .i64 0, .vs [encE awR, encE awC]])] = some (.vs ([awL].map encL)) := by rw [oLit_eq]; rfl
theorem aw_ok : ∀ x ∈ [awL], x.expr.Ok := by
  have h := Rd.read_ok [97, 32, 61, 32, 49, 42, 50, 98, 32, 47, 32, 34, 67, 34]
  rw [Rd.read_one] at h
  exact h.2
theorem c_awake (H : Heap) : E n_law03_awake [] H = some (.ret (.bool true), H) := by
  have h1 := c_reader_Read [97, 32, 61, 32, 49, 42, 50, 98, 32, 47, 32, 34, 67, 34]
  have h2 := c_reader_Read [97, 32, 61, 32]
  rw [Rd.read_two] at h2
  rw [Rd.read_one] at h1
  have h3 := c_SameLines (l := [awL]) (by simp) aw_ok
  have h4 : ([⟨[97], false, .mk 1 [] [] 0 0 [.mk 3 [] [] 1 2 [.mk 4 [98] [] 0 0 []], .mk 5 [99] [] 0 0 []]⟩] : List Rd.Line) = [awL] := rfl
  rw [law03_awake_E, law03_awake_eq]
  rw [h4] at h1
  generalize hM : List.map encL [awL] = M at *
  have l3 := aw_l3
  rw [hM] at l3
  simp (maxDischargeDepth := 9) only [bnd_some, beff_some, bcall_ret, gua_yes, oMove_v, oPick_t, oExtract_0, oExtract_1, oBin_eql, htrunc_self, loadB_var, rt_bool, cells_int, cells_str, cells_vs, cells_agg, scalL_nil, scalL_cons, scal_int, scal_str, scal_nils, scal_vs, mr_int, mr_str, mr_nils, mr_vs, mr_agg, mrL_nil, mrL_cons, storeB_var, splice_zero, splice_succ, htrunc_c, hget_at, hset_at, oVar_c, takeC, oBuild_nil, oBuild_cons, buildB_some, decide_true, if_true, List.drop_zero, List.drop_succ_cons, List.length_cons, List.length_nil, Nat.zero_add, Bool.and_true, List.append_nil, List.nil_append, List.cons_append, Nat.reduceAdd, oLoad_ptr, oStore_ptr, List.drop_nil, le_s, Nat.le_refl, Nat.zero_le, or_true, and_true, and_self, Nat.max_self, List.take_zero, List.take_succ_cons, h1, h2, h3, aw_l1, aw_l2, l3, List.getElem?_cons_zero, List.getElem?_cons_succ]
end Go.Proofs.Ytjnnegacjmcdbaa
end

section
/- The laws' own functions: texts put together out of pieces. -/
namespace Go.Proofs.Ytjnnegacjmcdbaa
open Go Go.Ev
set_option linter.unusedVariables false
set_option linter.unusedSimpArgs false

theorem c_many_l {s : List UInt8} {k : Nat} (hs : s.length ≤ 10) (hk : k ≤ 100) {H : Heap} : ∀ (m i : Nat) {acc : List UInt8}, k - i = m → i ≤ k → acc.length ≤ 10 * i →
    ∃ t : List UInt8, t.length ≤ 1000 ∧ law03_many_l1 H.length (.str s) (.int .i64 k) (.str acc) (.int .i64 i) H = some (.ret (.str t), H)
  | m, i, acc, hm, hi, ha => by
    rw [law03_many_l1_eq]
    by_cases h : i < k
    · have h' : (i : Int) < (k : Int) := by omega
      obtain ⟨m, rfl⟩ : ∃ q, m = q + 1 := ⟨m - 1, by omega⟩
      obtain ⟨t, i1, i2⟩ := c_many_l hs hk (H := H) m (i + 1) (acc := acc ++ s) (by omega) (by omega) (by simp; omega)
      refine ⟨t, i1, ?_⟩
      simp (maxDischargeDepth := 9) only [bnd_some, cnd_true, oBin_add, oBin_lss, htrunc_self, rt_str, decide_true, h', oBin_cat _ _ _ (show acc.length + s.length ≤ 9223372036854775807 by omega), wrap_succ (show i < 4611686018427387904 by omega), i2]
    · have h' : ¬ (i : Int) < (k : Int) := by omega
      refine ⟨acc, by omega, ?_⟩
      simp (maxDischargeDepth := 9) only [bnd_some, cnd_false, oBin_add, oBin_lss, htrunc_self, rt_str, decide_false, h']
theorem c_many {s : List UInt8} {k : Int} (hs : s.length ≤ 10) (h0 : 0 ≤ k) (hk : k ≤ 100) (H : Heap) : ∃ t : List UInt8, t.length ≤ 1000 ∧ E n_law03_many [.str s, .int .i64 k] H = some (.ret (.str t), H) := by
  obtain ⟨t, h1, h2⟩ := c_many_l (k := k.toNat) hs (by omega) (H := H) k.toNat 0 (acc := []) (by omega) (by omega) (by simp)
  rw [show ((k.toNat : Nat) : Int) = k by omega] at h2
  refine ⟨t, h1, ?_⟩
  rw [law03_many_E, law03_many_eq]
  exact h2
theorem many_k {s : List UInt8} {k : Int} {H : Heap} {f g : V → Heap → Option (Out × Heap)} {R : Option (Out × Heap)} (hs : s.length ≤ 10) (h0 : 0 ≤ k) (hk : k ≤ 100) (h : ∀ t : List UInt8, t.length ≤ 1000 → f (.str t) H = R) : bcall (E n_law03_many [.str s, .int .i64 k] H) f g = R := by
  obtain ⟨t, h1, h2⟩ := c_many hs h0 hk H
  rw [h2, bcall_ret]
  exact h t h1

def signsL : List (List UInt8) := [[97], [66], [32, 61, 32], [61, 47], [32], [10], [13, 10], [47], [40], [41], [91], [93], [42], [49], [50, 42, 51], [34, 120, 34], [37, 120, 52, 49], [37, 100, 49, 46, 50], [37, 98, 48, 45, 49], [37, 115, 34, 81, 34], [59, 99], [45], [34], [37], [48], [9], [37, 105, 34, 65, 34], [10, 32], [99, 49, 45, 100], [46, 53]]
theorem c_signs (H : Heap) : E n_law03_signs [] H = some (.ret (.vs (signsL.map V.str)), H) := by
  rw [law03_signs_E, law03_signs_eq]
  rw [show oLit 1 30 (.str []) [(0, (.str [97])), (1, (.str [66])), (2, (.str [32, 61, 32])), (3, (.str [61, 47])), (4, (.str [32])), (5, (.str [10])), (6, (.str [13, 10])), (7, (.str [47])), (8, (.str [40])), (9, (.str [41])), (10, (.str [91])), (11, (.str [93])), (12, (.str [42])), (13, (.str [49])), (14, (.str [50, 42, 51])), (15, (.str [34, 120, 34])), (16, (.str [37, 120, 52, 49])), (17, (.str [37, 100, 49, 46, 50])), (18, (.str [37, 98, 48, 45, 49])), (19, (.str [37, 115, 34, 81, 34])), (20, (.str [59, 99])), (21, (.str [45])), (22, (.str [34])), (23, (.str [37])), (24, (.str [48])), (25, (.str [9])), (26, (.str [37, 105, 34, 65, 34])), (27, (.str [10, 32])), (28, (.str [99, 49, 45, 100])), (29, (.str [46, 53]))] = some (.vs (signsL.map V.str)) by rw [oLit_eq]; rfl]
  simp (maxDischargeDepth := 9) only [bnd_some, htrunc_self, rt_vs]
theorem signs_len : ∀ t ∈ signsL, t.length ≤ 10 := by decide

theorem c_Pieces_l {zs : List Int} (hz : ∀ n ∈ zs, 0 ≤ n ∧ n ≤ 255) (hl : zs.length ≤ 9223372036854775807) {H : Heap} : ∀ (m i : Nat) {acc : List UInt8}, 14 - i = m → i ≤ 14 → acc.length ≤ 10 * i →
    ∃ t : List UInt8, t.length ≤ 140 ∧ law03_Pieces_l1 H.length (.vs (zs.map (V.int .u8))) (.vs (signsL.map V.str)) (.str acc) (.int .i64 i) H = some (.ret (.str t), H)
  | m, i, acc, hm, hi, ha => by
    rw [law03_Pieces_l1_eq]
    have stop : ¬ (i < zs.length ∧ i < 14) → ∃ t : List UInt8, t.length ≤ 140 ∧ law03_Pieces_l1 H.length (.vs (zs.map (V.int .u8))) (.vs (signsL.map V.str)) (.str acc) (.int .i64 i) H = some (.ret (.str t), H) := by
      intro h
      refine ⟨acc, by omega, ?_⟩
      rw [law03_Pieces_l1_eq]
      by_cases h1 : i < zs.length
      · have h1' : (i : Int) < (zs.length : Int) := by omega
        have h2' : ¬ (i : Int) < 14 := by omega
        simp (maxDischargeDepth := 9) only [bnd_some, cnd_false, gua_yes, oMove_v, oPick_t, oLenSl_vs, oBin_add, oBin_lss, htrunc_self, rt_str, decide_true, decide_false, List.length_map, h1', h2']
      · have h1' : ¬ (i : Int) < (zs.length : Int) := by omega
        simp (maxDischargeDepth := 9) only [bnd_some, cnd_false, gua_ft, oMove_v, oPick_f, oLenSl_vs, oBin_add, oBin_lss, htrunc_self, rt_str, decide_false, List.length_map, h1']
    rw [law03_Pieces_l1_eq] at stop
    by_cases h : i < zs.length ∧ i < 14
    · obtain ⟨m, rfl⟩ : ∃ q, m = q + 1 := ⟨m - 1, by omega⟩
      have h1' : (i : Int) < (zs.length : Int) := by omega
      have h2' : (i : Int) < 14 := by omega
      obtain ⟨n, hn, e1⟩ := idx_int (l := zs) (k' := .u8) (i := i) (k := .i64) (by omega) h1'
      obtain ⟨n0, n1⟩ := hz n hn
      have hm30 : 0 ≤ n % 30 ∧ n % 30 < 30 := ⟨Int.emod_nonneg _ (by omega), Int.emod_lt_of_pos _ (by omega)⟩
      obtain ⟨t0, ht0, e2⟩ := idx_str (l := signsL) (i := n % 30) (k := .i64) hm30.1 hm30.2
      have hlen := signs_len t0 ht0
      obtain ⟨t, i1, i2⟩ := c_Pieces_l hz hl (H := H) m (i + 1) (acc := acc ++ t0) (by omega) (by omega) (by simp; omega)
      refine ⟨t, i1, ?_⟩
      have h30 : signsL.length = 30 := rfl
      simp (maxDischargeDepth := 9) only [bnd_some, cnd_true, gua_yes, oMove_v, oPick_t, oIntTo_int, oLenSl_vs, oBin_add, oBin_lss, htrunc_self, oLoad_fptr, takeCells_1, rt_str, cast_lit, decide_true, List.length_map, h1', h2', e1, h30, wrap_i64 (show -9223372036854775808 ≤ n by omega) (by omega), oBin_rem _ _ _ _ (show (30 : Int) ≠ 0 by omega), Int.tmod_eq_emod_of_nonneg n0, e2,
        oBin_cat _ _ _ (show acc.length + t0.length ≤ 9223372036854775807 by omega), wrap_succ (show i < 4611686018427387904 by omega), i2]
    · exact stop h
theorem c_Pieces {zs : List Int} (hz : ∀ n ∈ zs, 0 ≤ n ∧ n ≤ 255) (hl : zs.length ≤ 9223372036854775807) (H : Heap) : ∃ t : List UInt8, t.length ≤ 140 ∧ E n_law03_Pieces [.vs (zs.map (V.int .u8)), .vs (signsL.map V.str)] H = some (.ret (.str t), H) := by
  obtain ⟨t, h1, h2⟩ := c_Pieces_l hz hl (H := H) 14 0 (acc := []) (by omega) (by omega) (by simp)
  refine ⟨t, h1, ?_⟩
  rw [law03_Pieces_E, law03_Pieces_eq]
  exact h2

theorem law_ReaderSmall {zs : List Int} (hz : ∀ n ∈ zs, 0 ≤ n ∧ n ≤ 255) (hl : zs.length ≤ 9223372036854775807) (H : Heap) : E n_law03_ReaderSmall [.vs (zs.map (V.int .u8))] H = some (.ret (.bool true), H) := by
  obtain ⟨t, h1, h2⟩ := c_Pieces hz hl H
  rw [law03_ReaderSmall_E, law03_ReaderSmall_eq]
  have c1 : ∀ e (a : List UInt8), a.length ≤ 1000 → oBin .add e (.str a) (.str t) = some (.str (a ++ t)) := fun e a ha => oBin_cat _ _ _ (by omega)
  have c2 : ∀ e (a : List UInt8), a.length ≤ 1000 → oBin .add e (.str (a ++ t)) (.str [10]) = some (.str (a ++ t ++ [10])) := fun e a ha => oBin_cat _ _ _ (by simp; omega)
  have l1 : [(114 : UInt8), 32, 61, 32].length ≤ 1000 := by decide
  have l2 : [(114 : UInt8), 32, 61, 32, 97, 32].length ≤ 1000 := by decide
  have b1 := fun e => c1 e _ l1
  have b2 := fun e => c1 e _ l2
  have b3 := fun e => c2 e _ l2
  simp only [List.cons_append, List.nil_append] at b3
  simp (maxDischargeDepth := 9) only [bnd_some, bcall_ret, gua_yes, oMove_v, oPick_t, htrunc_self, rt_bool, List.nil_append, List.cons_append, c_signs, h2, c_awake, c_same, b1, b2, b3]
end Go.Proofs.Ytjnnegacjmcdbaa
end

