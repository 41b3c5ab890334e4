/- Lg: a part of the proof that each law of this seat answers true at every input. No condition. -/
import Derived.Test.YtjnnegacjmcdbaaL
import Derived.Test.YtjnnegacjmcdbaaRx
set_option linter.unusedVariables false
set_option linter.unusedSimpArgs false
set_option maxRecDepth 20000
section
/- Laws over two texts: one behind the other; lines without a rule. -/
namespace Go.Proofs.Ytjnnegacjmcdbaa
open Go Go.Ev
set_option linter.unusedVariables false
set_option linter.unusedSimpArgs false

theorem rule_nz (s : List UInt8) (e : Int) (r : List UInt8) (hs : s.length < 60000) (h : Rd.rule s = .err e r) : e ≠ 0 := by
  obtain ⟨x, a', e', _, _, h3⟩ := r_rule (p := 0) (S := s) (a := 0) (H := [.var [.str s, .int .i64 0, .int .i64 0]]) rfl hs (Nat.zero_le _)
  rw [List.drop_zero, h] at h3
  exact h3.2

/-- Lines that are the same, where the others lie in a row. -/
theorem c_SameRows_l {l : List Rd.Line} (hl : l.length < 1000000) (hok : ∀ x ∈ l, x.expr.Ok) {H : Heap} {base j ver : Nat} (hg : hget H j = some (.row ver 8 true (cellsF encL l))) : ∀ (m i : Nat), l.length - i = m → i ≤ l.length →
    ref03_SameLines_l1 base (.vs (l.map encL)) (.rs j ver 8 0 l.length) (.int .i64 i) H = some (.ret (.bool true), htrunc H base)
  | m, i, hm, hi => by
    rw [ref03_SameLines_l1_eq]
    by_cases h : i < l.length
    · have h' : (i : Int) < (l.length : Int) := by omega
      obtain ⟨m, rfl⟩ : ∃ k, m = k + 1 := ⟨m - 1, by omega⟩
      have hx : l[i]? = some l[i] := List.getElem?_eq_getElem h
      have ih := c_SameRows_l hl hok (base := base) hg m (i + 1) (by omega) (by omega)
      have hs := c_Same (hok l[i] (List.getElem_mem h)) H
      obtain ⟨r, hr⟩ := cellsF_at encL_ok hx
      have e1 : ∀ k, oIndexPtr 8 (.rs j ver 8 0 l.length) (.int k (i : Int)) = some (.ptr j ver (i * 8)) := fun k => by
        rw [oIndexPtr_rs h]; simp
      have r0 : (cellsF encL l).drop (i * 8) = .str l[i].name :: .bool l[i].more :: ((encE l[i].expr).cells ++ r) := hr
      have r1 : (cellsF encL l).drop (i * 8 + 1) = .bool l[i].more :: ((encE l[i].expr).cells ++ r) := by rw [← List.drop_drop, r0]; rfl
      have r2 : (cellsF encL l).drop (i * 8 + 2) = (encE l[i].expr).cells ++ r := by rw [← List.drop_drop, r0]; rfl
      have t2 : takeCells true 6 ((encE l[i].expr).cells ++ r) = some (encE l[i].expr) := by
        generalize l[i].expr = e
        cases e; rfl
      simp (maxDischargeDepth := 9) only [bnd_some, bcall_ret, cnd_true, cnd_false, gua_yes, oMove_v, oPick_f, oFieldPtr_ptr, oUn_not, oLenSl_vs, oBin_add, oBin_lss, oBin_sneq, oBin_bneq, loadB_row, oLoad_fptr, takeCells_1, rt_bool, takeC, encE_cells, encE_agg, encE_take6, decide_true, Bool.not_true, List.drop_zero, List.drop_succ_cons, List.length_cons, Nat.add_zero, Nat.reduceAdd, beq_self_eq_true, oLoad_ptr, le_s, Nat.le_refl, List.length_map, idx_encL hx, take_encE, hs, h', wrap_succ (show i < 4611686018427387904 by omega), ih, oFieldPtr_fptr, e1, hg, r0, r1, r2, t2]
    · have h' : ¬ (i : Int) < (l.length : Int) := by omega
      simp (maxDischargeDepth := 9) only [bnd_some, cnd_false, oMove_v, oLenSl_vs, oBin_add, oBin_lss, rt_bool, decide_false, List.length_map, h']
theorem c_SameRows {l : List Rd.Line} (hl : l.length < 1000000) (hok : ∀ x ∈ l, x.expr.Ok) {H : Heap} {v : V} {b : Nat} (hr : RowsAt encL 8 b H v l) : E n_ref03_SameLines [.vs (l.map encL), v] H = some (.ret (.bool true), H) := by
  rcases hr with ⟨h1, h2⟩ | ⟨h0, j, ver, h1, h2, h3⟩
  · subst h1; subst h2
    rw [ref03_SameLines_E, ref03_SameLines_eq, List.map_nil]
    simp (maxDischargeDepth := 9) only [bnd_some, cnd_false, oLenSl_nils, oLenSl_vs, oBin_neq, htrunc_self, rt_bool, cast_lit, decide_true, Bool.not_true, List.length_nil]
    rw [ref03_SameLines_l1_eq]
    simp (maxDischargeDepth := 9) only [bnd_some, cnd_false, oMove_v, oLenSl_vs, oBin_add, oBin_lss, htrunc_self, rt_bool, cast_lit, decide_false, List.length_nil, Int.reduceAdd, Int.lt_irrefl]
  · subst h2
    have h := c_SameRows_l hl hok (base := H.length) h3 l.length 0 rfl (Nat.zero_le _)
    rw [htrunc_self] at h
    simp only [cast_lit] at h
    rw [ref03_SameLines_E, ref03_SameLines_eq]
    simp (maxDischargeDepth := 9) only [bnd_some, cnd_false, oLenSl_vs, oLenSl_rs, oBin_neq, htrunc_self, rt_bool, decide_true, Bool.not_true, List.length_map, h]

theorem c_Two_j {a b : List UInt8} (H : Heap) (ha : a.length ≤ 9223372036854775807) (hb : b.length ≤ 9223372036854775807) : law03_ReaderTwo_j1 H.length (.str a) (.str b) (.bool true) H = some (.ret (.bool true), H) := by
  rw [law03_ReaderTwo_j1_eq]
  by_cases h1 : (300 : Int) < (a.length : Int)
  · simp (maxDischargeDepth := 9) only [bnd_some, cnd_true, gua_yes, gua_tf, oMove_v, oPick_t, oLenStr_str, oBin_gtr, htrunc_self, rt_bool, decide_true, h1]
  · by_cases h2 : (300 : Int) < (b.length : Int)
    · simp (maxDischargeDepth := 9) only [bnd_some, cnd_true, gua_yes, oMove_v, oPick_t, oPick_f, oLenStr_str, oBin_gtr, htrunc_self, rt_bool, decide_true, decide_false, h1, h2]
    · by_cases h3 : (Rd.read a).2 = 0
      · by_cases h4 : (Rd.read b).2 = 0
        · cases b with
          | nil =>
            have n0 : ¬ (300 : Int) < 0 := by omega
            simp (maxDischargeDepth := 9) only [bnd_some, bcall_ret, cnd_true, cnd_false, gua_yes, gua_tf, oMove_v, oPick_t, oPick_f, oLenStr_str, oExtract_0, oExtract_1, oBin_neq, oBin_gtr, oBin_seql, htrunc_self, rt_bool, cast_lit, decide_true, decide_false, Bool.not_true, List.length_nil, h1, n0, h3, h4, c_reader_Read]
          | cons c b =>
            have h2' : ¬ (300 : Int) < ((b.length + 1 : Nat) : Int) := h2
            have n9 : ¬ (9 : Int) = 32 := by omega
            by_cases h5 : (c.toNat : Int) = 32
            · simp (maxDischargeDepth := 9) only [bnd_some, bcall_ret, cnd_true, cnd_false, gua_yes, gua_tf, oMove_v, oPick_t, oPick_f, oLenStr_str, oExtract_0, oExtract_1, oBin_eql, oBin_neq, oBin_gtr, oBin_seql, htrunc_self, rt_bool, oIndexStr_0, decide_true, decide_false, Bool.not_true, List.length_cons, reduceCtorEq, h1, h2', h3, h4, c_reader_Read, h5]
            · by_cases h6 : (c.toNat : Int) = 9
              · simp (maxDischargeDepth := 9) only [bnd_some, bcall_ret, cnd_true, cnd_false, gua_yes, oMove_v, oPick_t, oPick_f, oLenStr_str, oExtract_0, oExtract_1, oBin_eql, oBin_neq, oBin_gtr, oBin_seql, htrunc_self, rt_bool, oIndexStr_0, decide_true, decide_false, Bool.not_true, List.length_cons, reduceCtorEq, h1, h2', h3, h4, c_reader_Read, h5, h6, n9]
              · have hnb : Rd.NB (c :: b) := ⟨c, b, rfl, by
                  simp only [Rd.isBlank, Bool.or_eq_false_iff, beq_eq_false_iff_ne]
                  omega⟩
                have ht := Rd.read_two_texts rule_nz (a := a) (b := c :: b) (by omega) (by simp only [List.length_cons] at h2 ⊢; omega) h3 h4 hnb
                have hlen : (c :: b).length ≤ 300 := by omega
                have c1 : ∀ e, oBin .add e (.str a) (.str [10]) = some (.str (a ++ [10])) := fun e => oBin_cat _ _ _ (by simp; omega)
                have c2 : ∀ e, oBin .add e (.str (a ++ [10])) (.str (c :: b)) = some (.str (a ++ 10 :: c :: b)) := fun e => by
                  rw [oBin_cat _ _ _ (by simp at hlen ⊢; omega)]; simp
                have hr := c_reader_Read (a ++ 10 :: c :: b) H
                rw [ht] at hr
                simp only at hr
                have o1 := Rd.read_ok a
                have o2 := Rd.read_ok (c :: b)
                obtain ⟨v1, G1, a1, a2, a3, a4⟩ := RowsAt.appAll encL_ok (base := H.length) (by_ := 112) (b := H.length) (G := H) (v := .nils) (l := []) (Rd.read a).1 (.inl ⟨rfl, rfl⟩) (Nat.le_refl _) (by simp [roomOk]; omega)
                rw [List.nil_append] at a2
                obtain ⟨v2, G2, b1, b2, b3, b4⟩ := a2.appAll encL_ok (base := H.length) (by_ := 112) (Rd.read (c :: b)).1 a4 (by simp [roomOk]; omega)
                have hs := c_SameRows (by simp; omega) (fun x hx => by
                  rcases List.mem_append.1 hx with hx | hx
                  · exact o1.2 x hx
                  · exact o2.2 x hx) b2
                have htr : htrunc G2 H.length = H := by rw [b3 _ (Nat.le_refl _), a3 _ (Nat.le_refl _), htrunc_self]
                have hce : ¬ (c :: b) = [] := by simp
                simp (maxDischargeDepth := 9) only [bnd_some, beff_some, bcall_ret, cnd_false, gua_yes, oMove_v, oPick_t, oPick_f, oLenStr_str, oExtract_0, oExtract_1, oBin_eql, oBin_neq, oBin_gtr, oBin_seql, htrunc_self, rt_bool, oIndexStr_0, decide_true, decide_false, Bool.not_true, List.length_cons, h1, h2', h3, h4, c_reader_Read, h5, h6, hce, c1, c2, hr, a1, b1, hs, htr]
        · simp (maxDischargeDepth := 9) only [bnd_some, bcall_ret, cnd_true, cnd_false, gua_yes, gua_tf, oMove_v, oPick_t, oPick_f, oLenStr_str, oExtract_0, oExtract_1, oBin_neq, oBin_gtr, htrunc_self, rt_bool, decide_true, decide_false, Bool.not_true, Bool.not_false, h1, h2, h3, h4, c_reader_Read]
      · simp (maxDischargeDepth := 9) only [bnd_some, bcall_ret, cnd_true, cnd_false, gua_yes, gua_tf, oMove_v, oPick_t, oPick_f, oLenStr_str, oExtract_0, oExtract_1, oBin_neq, oBin_gtr, htrunc_self, rt_bool, decide_false, Bool.not_false, h1, h2, h3, c_reader_Read]
theorem law_ReaderTwo (a : List UInt8) (ha : a.length ≤ 9223372036854775807) (b : List UInt8) (hb : b.length ≤ 9223372036854775807) {za : List Int} (hza : ∀ n ∈ za, 0 ≤ n ∧ n ≤ 255) (hla : za.length ≤ 9223372036854775807) {zb : List Int} (hzb : ∀ n ∈ zb, 0 ≤ n ∧ n ≤ 255) (hlb : zb.length ≤ 9223372036854775807) (made : Bool) (H : Heap) :
    E n_law03_ReaderTwo [.str a, .str b, .vs (za.map (V.int .u8)), .vs (zb.map (V.int .u8)), .bool made] H = some (.ret (.bool true), H) := by
  obtain ⟨t, h1, h2⟩ := c_Pieces hza hla H
  obtain ⟨t', h3, h4⟩ := c_Pieces hzb hlb H
  rw [law03_ReaderTwo_E, law03_ReaderTwo_eq]
  have k1 : ∀ e (c : UInt8), oBin .add e (.str [c, 32, 61, 32]) (.str t) = some (.str (c :: 32 :: 61 :: 32 :: t)) := fun e c => oBin_cat _ _ _ (by simp; omega)
  have k2 : ∀ e (c : UInt8), oBin .add e (.str [c, 32, 61, 32]) (.str t') = some (.str (c :: 32 :: 61 :: 32 :: t')) := fun e c => oBin_cat _ _ _ (by simp; omega)
  cases made with
  | true =>
    have j := c_Two_j (a := 97 :: 32 :: 61 :: 32 :: t) (b := 98 :: 32 :: 61 :: 32 :: t') H (by simp; omega) (by simp; omega)
    simp (maxDischargeDepth := 9) only [bnd_some, bcall_ret, cnd_true, cnd_false, oUn_not, htrunc_self, rt_bool, Bool.not_true, c_awake, c_signs, h2, h4, k1, k2, j]
  | false =>
    simp (maxDischargeDepth := 9) only [bnd_some, bcall_ret, cnd_false, oUn_not, htrunc_self, rt_bool, Bool.not_true, c_awake, c_Two_j H ha hb]

theorem c_Lines_j {a : List UInt8} (H : Heap) (ha : a.length ≤ 9223372036854775807) : law03_ReaderLines_j1 H.length (.str a) (.bool true) H = some (.ret (.bool true), H) := by
  rw [law03_ReaderLines_j1_eq]
  by_cases h3 : (Rd.read a).2 = 0
  · by_cases h1 : (300 : Int) < (a.length : Int)
    · simp (maxDischargeDepth := 9) only [bnd_some, bcall_ret, cnd_true, gua_yes, oMove_v, oPick_t, oPick_f, oLenStr_str, oExtract_0, oExtract_1, oBin_neq, oBin_gtr, htrunc_self, rt_bool, decide_true, Bool.not_true, h1, h3, c_reader_Read]
    · have ht := Rd.read_lines rule_nz (a := a) (by omega) h3
      have hr := c_reader_Read ([10, 59, 32, 120, 32, 34, 13, 10, 32, 9, 59, 32, 121, 10] ++ a ++ [10, 10, 59, 122]) H
      rw [ht] at hr
      simp only at hr
      have o1 := Rd.read_ok a
      have c1 : ∀ e, oBin .add e (.str [10, 59, 32, 120, 32, 34, 13, 10, 32, 9, 59, 32, 121, 10]) (.str a) = some (.str ([10, 59, 32, 120, 32, 34, 13, 10, 32, 9, 59, 32, 121, 10] ++ a)) := fun e => oBin_cat _ _ _ (by simp; omega)
      have c2 : ∀ e, oBin .add e (.str ([10, 59, 32, 120, 32, 34, 13, 10, 32, 9, 59, 32, 121, 10] ++ a)) (.str [10, 10, 59, 122]) = some (.str ([10, 59, 32, 120, 32, 34, 13, 10, 32, 9, 59, 32, 121, 10] ++ a ++ [10, 10, 59, 122])) := fun e => oBin_cat _ _ _ (by simp; omega)
      simp only [List.cons_append, List.nil_append] at c1 c2 hr
      simp (maxDischargeDepth := 9) only [bnd_some, bcall_ret, cnd_false, gua_yes, oMove_v, oPick_t, oPick_f, oLenStr_str, oExtract_0, oExtract_1, oBin_eql, oBin_neq, oBin_gtr, htrunc_self, rt_bool, decide_true, decide_false, Bool.not_true, h1, h3, c_reader_Read a H, c1, c2, hr, c_SameLines (show (Rd.read a).1.length < 1000000 by omega) o1.2]
  · simp (maxDischargeDepth := 9) only [bnd_some, bcall_ret, cnd_true, gua_yes, gua_tf, oMove_v, oPick_t, oExtract_0, oExtract_1, oBin_neq, htrunc_self, rt_bool, decide_false, Bool.not_false, h3, c_reader_Read]
theorem law_ReaderLines (a : List UInt8) (ha : a.length ≤ 9223372036854775807) {za : List Int} (hza : ∀ n ∈ za, 0 ≤ n ∧ n ≤ 255) (hla : za.length ≤ 9223372036854775807) (made : Bool) (H : Heap) :
    E n_law03_ReaderLines [.str a, .vs (za.map (V.int .u8)), .bool made] H = some (.ret (.bool true), H) := by
  obtain ⟨t, h1, h2⟩ := c_Pieces hza hla H
  rw [law03_ReaderLines_E, law03_ReaderLines_eq]
  have k1 : ∀ e (c : UInt8), oBin .add e (.str [c, 32, 61, 32]) (.str t) = some (.str (c :: 32 :: 61 :: 32 :: t)) := fun e c => oBin_cat _ _ _ (by simp; omega)
  cases made with
  | true =>
    have j := c_Lines_j (a := 97 :: 32 :: 61 :: 32 :: t) H (by simp; omega)
    simp (maxDischargeDepth := 9) only [bnd_some, bcall_ret, cnd_true, cnd_false, oUn_not, htrunc_self, rt_bool, Bool.not_true, c_awake, c_signs, h2, k1, j]
  | false =>
    simp (maxDischargeDepth := 9) only [bnd_some, bcall_ret, cnd_false, oUn_not, htrunc_self, rt_bool, Bool.not_true, c_awake, c_Lines_j H ha]
end Go.Proofs.Ytjnnegacjmcdbaa
end

