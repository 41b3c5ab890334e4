/- Td: a part of the proof that each law of this seat answers true at every input. No condition. -/
import Derived.Test.YthcjjicplodhjaaDoorTc
import Derived.Test.YthcjjicplodhjaaDoorTe
import Derived.Test.YthcjjicplodhjaaDoorEnc
set_option linter.unusedVariables false
set_option linter.unusedSimpArgs false
set_option maxRecDepth 20000
section
/- Rules as texts: the document's Tell, the teller's. -/
namespace Go.Proofs.YthcjjicplodhjaaDoor
open Go Go.Ev
set_option linter.unusedVariables false
set_option linter.unusedSimpArgs false

theorem idx_L {l : List Rd.Line} {i : Nat} (h : i < l.length) (k : IntKind) : oIndexPtr 8 (.vs (l.map encL)) (.int k (i : Int)) = some (.fptr (.str l[i].name :: .bool l[i].more :: (encE l[i].expr).cells)) :=
  oIndexPtr_vs (y := encL l[i]) (by simp [h]) (by simp [encL])
theorem itoa3 : ∀ n : Int, 0 ≤ n → n ≤ 200 → (Lib.itoa n).length ≤ 3 := fun n h0 h1 => itoa_len h0 h1
theorem line_text {x : Rd.Line} (hw : Te.wL x ≤ 1000000) (h : Te.right 50 x.expr = true) : (Te.text x.expr).length ≤ 17000000 := by
  have := Te.text_le itoa3 50 x.expr h
  unfold Te.wL at hw
  omega
theorem line_fit {x : Rd.Line} (hw : Te.wL x ≤ 1000000) : x.expr.Fit := Te.fit_of _ (by unfold Te.wL at hw; omega)
theorem r4_Tell_l {l : List Rd.Line} (hl : Te.wLs l ≤ 1000000) {H : Heap} : ∀ (m i : Nat), l.length - i = m → i ≤ l.length → ∀ s : List UInt8, s.length + 17 * Te.wLs (l.drop i) ≤ 1000000000 →
    ref04_Tell_l1 H.length (.vs (l.map encL)) (.str s) (.int .i64 i) H = some (.ret (let r := if (l.drop i).all Te.lineOk then (s ++ ((l.drop i).map Te.lineT).flatten, (0 : Int)) else ([], 1); .tup [.str r.1, .int .i64 r.2]), H)
  | m, i, hm, hi, s, hb => by
    have hll := Te.wLs_len l
    rw [ref04_Tell_l1_eq]
    by_cases h : i < l.length
    · have h' : (i : Int) < (l.length : Int) := by omega
      obtain ⟨m, rfl⟩ : ∃ k, m = k + 1 := ⟨m - 1, by omega⟩
      have hw := Te.wLs_mem (List.getElem_mem h)
      have hN := fun H => r4_Name (s := l[i].name) (by unfold Te.wL at hw; omega) H
      have hF := line_fit (x := l[i]) (by omega)
      have hR := fun H => r4_Right 50 (by omega) hF H
      simp only [cast_lit] at hR
      have ix := idx_L h
      have hd : l.drop i = l[i] :: l.drop (i + 1) := List.drop_eq_getElem_cons h
      rw [hd] at hb ⊢
      cases hn : Te.name l[i].name
      · rw [Te.tell_bad _ _ _ (by simp [Te.lineOk, hn])]
        simp (maxDischargeDepth := 9) only [bnd_some, bcall_ret, cnd_true, gua_tf, oMove_v, oPick_t, oUn_not, oLenSl_vs, oBin_lss, htrunc_self, oLoad_fptr, takeCells_1, mr_int, mr_str, mr_tup, mrL_nil, mrL_cons, rt_tup, rtF_some, depth_eq, frz_int, frz_str, frz_tup, mapO_nil, mapO_cons, encE_cells, decide_true, Bool.not_false, if_true, List.drop_zero, List.drop_succ_cons, List.length_cons, Option.bind_some, Option.map_some, Nat.reduceAdd, le_s, Nat.le_refl, Nat.zero_le, Nat.max_self, List.length_map, h', ix, oFieldPtr_fptr, hN, hn]
      · cases hr : Te.right 50 l[i].expr
        · rw [Te.tell_bad _ _ _ (by simp [Te.lineOk, hr])]
          simp (maxDischargeDepth := 9) only [bnd_some, bcall_ret, cnd_true, gua_yes, oMove_v, oPick_f, oUn_not, oLenSl_vs, oBin_lss, htrunc_self, oLoad_fptr, takeCells_1, mr_int, mr_str, mr_tup, mrL_nil, mrL_cons, takeC, rt_tup, rtF_some, depth_eq, frz_int, frz_str, frz_tup, mapO_nil, mapO_cons, encE_cells, encE_agg, encE_take6, decide_true, Bool.not_true, Bool.not_false, if_true, List.drop_zero, List.drop_succ_cons, List.length_cons, Option.bind_some, Option.map_some, Nat.reduceAdd, le_s, Nat.le_refl, Nat.zero_le, Nat.max_self, List.length_map, h', ix, oFieldPtr_fptr, hN, hn, takeE, hR, hr]
        · have hok : Te.lineOk l[i] = true := by simp [Te.lineOk, hn, hr]
          rw [Te.tell_cons _ _ _ hok]
          have hT := fun H => r4_Text 50 hF hr (by have := line_text (x := l[i]) (by omega) hr; omega) H
          have hlt := line_text (x := l[i]) (by omega) hr
          have hln := Te.lineT_len itoa3 hok
          simp only [Te.wLs] at hb
          have ih := r4_Tell_l hl (H := H) m (i + 1) (by omega) (by omega) (s ++ Te.lineT l[i]) (by rw [List.length_append]; omega)
          have hnm : l[i].name.length ≤ 1000000 := by unfold Te.wL at hw; omega
          have c1 : oBin .add 6 (.str s) (.str l[i].name) = some (.str (s ++ l[i].name)) := oBin_cat _ _ _ (by omega)
          have hc : ∀ q : List UInt8, q.length ≤ 4 → oBin .add 6 (.str (s ++ l[i].name)) (.str q) = some (.str (s ++ l[i].name ++ q)) ∧ oBin .add 6 (.str (s ++ l[i].name ++ q)) (.str (Te.text l[i].expr)) = some (.str (s ++ l[i].name ++ q ++ Te.text l[i].expr)) ∧ oBin .add 6 (.str (s ++ l[i].name ++ q ++ Te.text l[i].expr)) (.str [10]) = some (.str (s ++ (l[i].name ++ q ++ Te.text l[i].expr ++ [10]))) := fun q hq => by
            refine ⟨oBin_cat _ _ _ (by simp; omega), oBin_cat _ _ _ (by simp; omega), ?_⟩
            rw [oBin_cat _ _ _ (by simp; omega)]; simp
          cases hm : l[i].more
          · obtain ⟨c2, c3, c4⟩ := hc [32, 61, 32] (by simp)
            have eT : Te.lineT l[i] = l[i].name ++ [32, 61, 32] ++ Te.text l[i].expr ++ [10] := by simp [Te.lineT, hm]
            rw [eT] at ih ⊢
            simp (maxDischargeDepth := 9) only [bnd_some, bcall_ret, cnd_true, cnd_false, gua_yes, sch_true, sam_self, oMove_v, oPick_f, oUn_not, oLenSl_vs, oBin_add, oBin_lss, htrunc_self, oLoad_fptr, takeCells_1, mr_int, mr_str, mr_tup, mrL_nil, mrL_cons, takeC, rt_tup, rtF_some, depth_eq, frz_int, frz_str, frz_tup, mapO_nil, mapO_cons, encE_cells, encE_agg, encE_take6, decide_true, Bool.not_true, if_true, List.drop_zero, List.drop_succ_cons, List.length_cons, Option.bind_some, Option.map_some, Nat.reduceAdd, le_s, Nat.le_refl, Nat.zero_le, Nat.max_self, List.length_map, h', ix, oFieldPtr_fptr, hN, hn, takeE, hR, hr, ref04_Tell_j2_eq, ref04_Tell_j3_eq, hm, hT, c1, c2, c3, c4, wrap_in h (show l.length ≤ 9223372036854775807 by omega), ih]
          · obtain ⟨c2, c3, c4⟩ := hc [32, 61, 47, 32] (by simp)
            have eT : Te.lineT l[i] = l[i].name ++ [32, 61, 47, 32] ++ Te.text l[i].expr ++ [10] := by simp [Te.lineT, hm]
            rw [eT] at ih ⊢
            simp (maxDischargeDepth := 9) only [bnd_some, bcall_ret, cnd_true, cnd_false, gua_yes, sch_true, sam_self, oMove_v, oPick_f, oUn_not, oLenSl_vs, oBin_add, oBin_lss, htrunc_self, oLoad_fptr, takeCells_1, mr_int, mr_str, mr_tup, mrL_nil, mrL_cons, takeC, rt_tup, rtF_some, depth_eq, frz_int, frz_str, frz_tup, mapO_nil, mapO_cons, encE_cells, encE_agg, encE_take6, decide_true, Bool.not_true, if_true, List.drop_zero, List.drop_succ_cons, List.length_cons, Option.bind_some, Option.map_some, Nat.reduceAdd, le_s, Nat.le_refl, Nat.zero_le, Nat.max_self, List.length_map, h', ix, oFieldPtr_fptr, hN, hn, takeE, hR, hr, ref04_Tell_j2_eq, ref04_Tell_j3_eq, hm, hT, c1, c2, c3, c4, wrap_in h (show l.length ≤ 9223372036854775807 by omega), ih]
    · have h' : ¬ (i : Int) < (l.length : Int) := by omega
      have e : l.drop i = [] := List.drop_of_length_le (by omega)
      rw [e]
      simp (maxDischargeDepth := 9) only [bnd_some, cnd_false, oMove_v, oLenSl_vs, oBin_lss, htrunc_self, mr_int, mr_str, mr_tup, mrL_nil, mrL_cons, rt_tup, rtF_some, depth_eq, frz_int, frz_str, frz_tup, mapO_nil, mapO_cons, decide_false, if_true, Option.bind_some, Option.map_some, List.append_nil, Nat.reduceAdd, Nat.zero_le, Nat.max_self, List.length_map, h', List.all_nil, if_true, List.map_nil, List.flatten_nil, List.append_nil]
theorem r4_Tell {l : List Rd.Line} (hl : Te.wLs l ≤ 1000000) (H : Heap) : E n_ref04_Tell [.vs (l.map encL)] H = some (.ret (.tup [.str (Te.tell l).1, .int .i64 (Te.tell l).2]), H) := by
  have h := r4_Tell_l hl (H := H) l.length 0 (by omega) (by omega) [] (by simp; omega)
  simp only [cast_lit, List.drop_zero, List.nil_append] at h
  rw [ref04_Tell_E, ref04_Tell_eq, h]
  rfl

theorem c4_Tell_l {l : List Rd.Line} (H : Heap) : Te.wLs l ≤ 1000000 → ∀ s : List UInt8, s.length + 17 * Te.wLs l ≤ 1000000000 →
    oTellL E n_teller_Name n_teller_Right n_teller_text H (l.map encL) s = some (.ret (let r := if l.all Te.lineOk then (s ++ (l.map Te.lineT).flatten, (0 : Int)) else ([], 1); .tup [.str r.1, .int .i64 r.2]), H) := by
  induction l with
  | nil => intro hl s hb; simp [oTellL]
  | cons x l ih =>
    intro hl s hb
    have hw := Te.wLs_mem (l := x :: l) (x := x) (by simp)
    have hN := c4_Name (s := x.name) (by unfold Te.wL at hw; omega) []
    have hF := line_fit (x := x) (by omega)
    have hR := c4_Right hF []
    have ea : V.agg (encE x.expr).cells = encE x.expr := by simp
    have em : (x :: l).map encL = encL x :: l.map encL := rfl
    rw [em]
    obtain ⟨ek, et, en, elo, ehi, eks, hxe⟩ : ∃ ek et en elo ehi eks, x.expr = .mk ek et en elo ehi eks := by cases x.expr; exact ⟨_, _, _, _, _, _, rfl⟩
    have ec : encL x = .agg [.str x.name, .bool x.more, .int .i64 ek, .str et, .vs (en.map (V.int .i64)), .int .i64 elo, .int .i64 ehi, .vs (encEs eks)] := by unfold encL; rw [hxe]; rfl
    have ee : encE x.expr = .agg [.int .i64 ek, .str et, .vs (en.map (V.int .i64)), .int .i64 elo, .int .i64 ehi, .vs (encEs eks)] := by rw [hxe]; rfl
    rw [ee] at hR
    rw [ec]
    simp only [oTellL, hN, Option.bind_some, sameH_ret]
    cases hn : Te.name x.name
    · rw [Te.tell_bad _ _ _ (by simp [Te.lineOk, hn])]
    · simp only [hR, Option.bind_some, sameH_ret]
      cases hr : Te.right 50 x.expr
      · rw [Te.tell_bad _ _ _ (by simp [Te.lineOk, hr])]
      · have hok : Te.lineOk x = true := by simp [Te.lineOk, hn, hr]
        rw [Te.tell_cons _ _ _ hok]
        have hlt := line_text (x := x) (by omega) hr
        have hT := c4_text 50 hF hr (by omega) []
        rw [ee] at hT
        have hln := Te.lineT_len itoa3 hok
        have hnm : x.name.length ≤ 1000000 := by unfold Te.wL at hw; omega
        simp only [Te.wLs] at hb hl
        simp only [hT, Option.bind_some, sameH_ret]
        rw [if_pos (by omega)]
        exact ih (by omega) (s ++ Te.lineT x) (by rw [List.length_append]; omega)
theorem c4_Tell {l : List Rd.Line} (hl : Te.wLs l ≤ 1000000) (H : Heap) : E n_teller_Tell [.vs (l.map encL)] H = some (.ret (.tup [.str (Te.tell l).1, .int .i64 (Te.tell l).2]), H) := by
  rw [show E = EV Tryd.prog hint D from rfl, EV_orc (g := oTell n_teller_Name n_teller_Right n_teller_text) rfl]
  have h := c4_Tell_l H hl [] (by simp; omega)
  simp only [List.nil_append] at h
  have hll := Te.wLs_len l
  unfold oTell
  simp only [List.length_map]
  rw [if_pos (by omega)]
  exact h
end Go.Proofs.YthcjjicplodhjaaDoor
end

section
/- The laws' own functions: how much there is; is it what the document says? -/
namespace Go.Proofs.YthcjjicplodhjaaDoor
open Go Go.Ev
set_option linter.unusedVariables false
set_option linter.unusedSimpArgs false

theorem l4_same_l {l : List Rd.Line} (hl : Te.wLs l ≤ 1000000) {H : Heap} {s : List UInt8} (hs : s.length ≤ 9223372036854775807) {e : Int} : ∀ (m i : Nat), l.length - i = m → i ≤ l.length →
    law04_same_l1 H.length (.vs (l.map encL)) (.str s) (.int .i64 e) (.str s) (.int .i64 e) (.int .i64 i) H = some (.ret (.bool true), H)
  | m, i, hm, hi => by
    have hll := Te.wLs_len l
    rw [law04_same_l1_eq]
    by_cases h : i < l.length
    · have h' : (i : Int) < (l.length : Int) := by omega
      obtain ⟨m, rfl⟩ : ∃ k, m = k + 1 := ⟨m - 1, by omega⟩
      have hw := Te.wLs_mem (List.getElem_mem h)
      have hN := fun H => r4_Name (s := l[i].name) (by unfold Te.wL at hw; omega) H
      have hN4 := fun H => c4_Name (s := l[i].name) (by unfold Te.wL at hw; omega) H
      have hF := line_fit (x := l[i]) (by omega)
      have hR := fun H => r4_Right 50 (by omega) hF H
      have hR4 := fun H => c4_Right hF H
      simp only [cast_lit] at hR
      have ix := idx_L h
      have ih := l4_same_l hl (H := H) hs (e := e) m (i + 1) (by omega) (by omega)
      simp (maxDischargeDepth := 9) only [bnd_some, bcall_ret, cnd_true, cnd_false, gua_yes, sch_true, sam_self, oMove_v, oPick_t, oPick_f, oLenSl_vs, oBin_add, oBin_eql, oBin_lss, oBin_seql, oBin_bneq, htrunc_self, oLoad_fptr, takeCells_1, rt_bool, takeC, encE_cells, encE_agg, encE_take6, decide_true, Bool.not_true, List.drop_zero, List.drop_succ_cons, List.length_cons, Nat.reduceAdd, beq_self_eq_true, le_s, Nat.le_refl, List.length_map, h', ix, oFieldPtr_fptr, hN, hN4, takeE, hR, hR4, wrap_in h (show l.length ≤ 9223372036854775807 by omega), ih]
    · have h' : ¬ (i : Int) < (l.length : Int) := by omega
      simp (maxDischargeDepth := 9) only [bnd_some, cnd_false, gua_yes, oMove_v, oPick_t, oLenSl_vs, oBin_add, oBin_eql, oBin_lss, oBin_seql, htrunc_self, rt_bool, decide_true, decide_false, List.length_map, h']
theorem l4_same {l : List Rd.Line} (hl : Te.wLs l ≤ 1000000) (H : Heap) : E n_law04_same [.vs (l.map encL)] H = some (.ret (.bool true), H) := by
  have hs : (Te.tell l).1.length ≤ 9223372036854775807 := by
    unfold Te.tell
    split
    · rename_i ha
      have : ∀ m : List Rd.Line, m.all Te.lineOk = true → ((m.map Te.lineT).flatten).length ≤ 17 * Te.wLs m := fun m => by
        induction m with
        | nil => intro _; simp
        | cons x m ih =>
          intro h
          simp only [List.all_cons, Bool.and_eq_true] at h
          have h1 := ih h.2
          have h2 := Te.lineT_len itoa3 h.1
          simp only [List.map_cons, List.flatten_cons, List.length_append, Te.wLs]
          omega
      have := this l ha
      simp only
      omega
    · simp
  have h := l4_same_l hl (H := H) hs (e := (Te.tell l).2) l.length 0 (by omega) (by omega)
  simp only [cast_lit] at h
  rw [law04_same_E, law04_same_eq]
  simp (maxDischargeDepth := 9) only [bnd_some, bcall_ret, oExtract_0, oExtract_1, c4_Tell hl, r4_Tell hl, h]
abbrev xB : Rd.Expr := .mk 4 [98] [] 0 0 []
abbrev xC : Rd.Expr := .mk 5 [99] [] 0 0 []
abbrev xR : Rd.Expr := .mk 3 [] [] 1 2 [xB]
abbrev xA : Rd.Expr := .mk 1 [] [] 0 0 [xR, xC]
theorem l4_awake (H : Heap) : E n_law04_awake [] H = some (.ret (.bool true), H) := by
  rw [law04_awake_E, law04_awake_eq]
  have t1 := c4_Tell (l := [⟨[97], false, xA⟩]) (by decide)
  have t2 := c4_Tell (l := [⟨[65], false, xA⟩]) (by decide)
  have e1 : Te.tell [⟨[97], false, xA⟩] = ([97, 32, 61, 32, 49, 42, 50, 98, 32, 47, 32, 34, 99, 34, 10], 0) := by decide +kernel
  have e2 : Te.tell [⟨[65], false, xA⟩] = ([], 1) := by decide +kernel
  rw [e1] at t1
  rw [e2] at t2
  have r1 := fun H => c4_Right (e := xA) (Te.fit_of _ (by decide)) H
  have r2 := fun H => c4_Right (e := .mk 0 [] [] 0 0 []) (Te.fit_of _ (by decide)) H
  have f1 : Te.right 50 xA = true := by decide +kernel
  have f2 : Te.right 50 (.mk 0 [] [] 0 0 []) = false := by decide +kernel
  rw [f1] at r1
  rw [f2] at r2
  have n1 := fun H => c4_Name (s := [97, 45, 49]) (by simp) H
  have n2 : Te.name [97, 45, 49] = true := by decide
  rw [n2] at n1
  have l1 := fun z => (isE_nn 4 [98] 0 0).lit1 z
  have l2 := fun z => (isE_nk 3 [] 1 2 [xB]).lit2 (isE_nn 5 [99] 0 0) z
  have q1 := fun H => (c4_Right_N (.agg [.int .i64 1, .str [], .nils, .int .i64 0, .int .i64 0, .vs (encEs [xR, xC])]) H).trans (r1 H)
  have q2 := fun H => (c4_Right_N (.agg [.int .i64 0, .str [], .nils, .int .i64 0, .int .i64 0, .nils]) H).trans (r2 H)
  simp (maxDischargeDepth := 9) only [bnd_some, beff_some, bcall_ret, gua_yes, oMove_v, oPick_t, oUn_not, oExtract_0, oExtract_1, oBin_eql, oBin_seql, htrunc_self, loadB_var, rt_bool, cells_agg, scalL_nil, scalL_cons, scal_int, scal_str, scal_nils, scal_vs, mr_int, mr_str, mr_nils, mr_vs, mr_agg, mrL_nil, mrL_cons, storeB_var, splice_zero, htrunc_c, hget_at, hset_at, oVar_c, takeC, oBuild_nil, decide_true, Bool.not_false, if_true, List.drop_zero, List.drop_succ_cons, List.length_cons, List.length_nil, Nat.zero_add, Bool.and_true, List.append_nil, Nat.reduceAdd, oLoad_ptr, oStore_ptr, List.drop_nil, le_s, Nat.le_refl, Nat.zero_le, or_true, true_or, and_true, and_self, Nat.max_self, List.take_zero, List.take_succ_cons, bE_text, l1, bE_rep, l2, bE_kids, bL_nk, litL_nk, t1, t2, q1, q2, n1]
end Go.Proofs.YthcjjicplodhjaaDoor
end

section
/- The statements about names; about what stands so often. -/
namespace Go.Proofs.YthcjjicplodhjaaDoor
open Go Go.Ev
set_option linter.unusedVariables false
set_option linter.unusedSimpArgs false

theorem c_PiecesG_l {sg : List (List UInt8)} (h0 : 0 < sg.length) (h1k : sg.length ≤ 1000) (hsg : ∀ t ∈ sg, t.length ≤ 10) {zs : List Int} (hz : ∀ n ∈ zs, 0 ≤ n ∧ n ≤ 255) (hl : zs.length ≤ 9223372036854775807) {H : Heap} : ∀ (m i : Nat) {acc : List UInt8}, 14 - i = m → i ≤ 14 → acc.length ≤ 10 * i →
    ∃ t : List UInt8, t.length ≤ 140 ∧ law03_Pieces_l1 H.length (.vs (zs.map (V.int .u8))) (.vs (sg.map V.str)) (.str acc) (.int .i64 i) H = some (.ret (.str t), H)
  | m, i, acc, hm, hi, ha => by
    rw [law03_Pieces_l1_eq]
    have stop : ¬ (i < zs.length ∧ i < 14) → ∃ t : List UInt8, t.length ≤ 140 ∧ law03_Pieces_l1 H.length (.vs (zs.map (V.int .u8))) (.vs (sg.map V.str)) (.str acc) (.int .i64 i) H = some (.ret (.str t), H) := by
      intro h
      refine ⟨acc, by omega, ?_⟩
      rw [law03_Pieces_l1_eq]
      by_cases h1 : i < zs.length
      · have h1' : (i : Int) < (zs.length : Int) := by omega
        have h2' : ¬ (i : Int) < 14 := by omega
        simp (maxDischargeDepth := 9) only [bnd_some, cnd_false, gua_yes, oMove_v, oPick_t, oLenSl_vs, oBin_add, oBin_lss, htrunc_self, rt_str, decide_true, decide_false, List.length_map, h1', h2']
      · have h1' : ¬ (i : Int) < (zs.length : Int) := by omega
        simp (maxDischargeDepth := 9) only [bnd_some, cnd_false, gua_ft, oMove_v, oPick_f, oLenSl_vs, oBin_add, oBin_lss, htrunc_self, rt_str, decide_false, List.length_map, h1']
    rw [law03_Pieces_l1_eq] at stop
    by_cases h : i < zs.length ∧ i < 14
    · obtain ⟨m, rfl⟩ : ∃ q, m = q + 1 := ⟨m - 1, by omega⟩
      have h1' : (i : Int) < (zs.length : Int) := by omega
      have h2' : (i : Int) < 14 := by omega
      obtain ⟨n, hn, e1⟩ := idx_int (l := zs) (k' := .u8) (i := i) (k := .i64) (by omega) h1'
      obtain ⟨n0, n1⟩ := hz n hn
      have hm30 : 0 ≤ n % (sg.length : Int) ∧ n % (sg.length : Int) < (sg.length : Int) := ⟨Int.emod_nonneg _ (by omega), Int.emod_lt_of_pos _ (by omega)⟩
      obtain ⟨t0, ht0, e2⟩ := idx_str (l := sg) (i := n % (sg.length : Int)) (k := .i64) hm30.1 hm30.2
      have hlen := hsg t0 ht0
      obtain ⟨t, i1, i2⟩ := c_PiecesG_l h0 h1k hsg hz hl (H := H) m (i + 1) (acc := acc ++ t0) (by omega) (by omega) (by simp; omega)
      refine ⟨t, i1, ?_⟩
      simp (maxDischargeDepth := 9) only [bnd_some, cnd_true, gua_yes, oMove_v, oPick_t, oIntTo_int, oLenSl_vs, oBin_add, oBin_lss, htrunc_self, oLoad_fptr, takeCells_1, rt_str, decide_true, List.length_map, h1', h2', e1, wrap_i64 (show -9223372036854775808 ≤ n by omega) (by omega), oBin_rem _ _ _ _ (show (sg.length : Int) ≠ 0 by omega), Int.tmod_eq_emod_of_nonneg n0, e2,
        oBin_cat _ _ _ (show acc.length + t0.length ≤ 9223372036854775807 by omega), wrap_succ (show i < 4611686018427387904 by omega), wrap_i64 (show -9223372036854775808 ≤ n % (sg.length : Int) by omega) (by omega), i2]
    · exact stop h
theorem c_PiecesG {sg : List (List UInt8)} (h0 : 0 < sg.length) (h1k : sg.length ≤ 1000) (hsg : ∀ t ∈ sg, t.length ≤ 10) {zs : List Int} (hz : ∀ n ∈ zs, 0 ≤ n ∧ n ≤ 255) (hl : zs.length ≤ 9223372036854775807) (H : Heap) : ∃ t : List UInt8, t.length ≤ 140 ∧ E n_law03_Pieces [.vs (zs.map (V.int .u8)), .vs (sg.map V.str)] H = some (.ret (.str t), H) := by
  obtain ⟨t, h1, h2⟩ := c_PiecesG_l h0 h1k hsg hz hl (H := H) 14 0 (acc := []) (by omega) (by omega) (by simp)
  refine ⟨t, h1, ?_⟩
  rw [law03_Pieces_E, law03_Pieces_eq]
  exact h2
def nameSigns : List (List UInt8) := [[97], [122], [49], [45], [65], [98, 57], [95], [46], [97, 98, 99, 100, 101, 102, 103, 104, 105, 106]]
theorem law_TellerNames (s : List UInt8) (hs : s.length ≤ 9223372036854775807) {zs : List Int} (hz : ∀ n ∈ zs, 0 ≤ n ∧ n ≤ 255) (hl : zs.length ≤ 9223372036854775807) (H : Heap) :
    E n_law04_TellerNames [.str s, .vs (zs.map (V.int .u8))] H = some (.ret (.bool true), H) := by
  obtain ⟨t, h1, h2⟩ := c_PiecesG (sg := nameSigns) (by decide) (by decide) (by decide) hz hl H
  have e1 : ∀ z, oLit 1 9 z [(0, (.str [97])), (1, (.str [122])), (2, (.str [49])), (3, (.str [45])), (4, (.str [65])), (5, (.str [98, 57])), (6, (.str [95])), (7, (.str [46])), (8, (.str [97, 98, 99, 100, 101, 102, 103, 104, 105, 106]))] = some (.vs (nameSigns.map V.str)) → True := fun _ _ => trivial
  rw [law04_TellerNames_E, law04_TellerNames_eq]
  rw [show oLit 1 9 (.str []) [(0, (.str [97])), (1, (.str [122])), (2, (.str [49])), (3, (.str [45])), (4, (.str [65])), (5, (.str [98, 57])), (6, (.str [95])), (7, (.str [46])), (8, (.str [97, 98, 99, 100, 101, 102, 103, 104, 105, 106]))] = some (.vs (nameSigns.map V.str)) by rw [oLit_eq]; rfl]
  have n1 := fun H => c4_Name hs H
  have n2 := fun H => r4_Name hs H
  have n3 := fun H => c4_Name (s := t) (by omega) H
  have n4 := fun H => r4_Name (s := t) (by omega) H
  simp (maxDischargeDepth := 9) only [bnd_some, bcall_ret, gua_yes, oMove_v, oPick_t, oBin_beql, htrunc_self, rt_bool, beq_self_eq_true, h2, l4_awake, n1, n2, n3, n4]

theorem wL_small (k lo hi : Int) (t : List UInt8) (n : List Int) (ks : List Rd.Expr) : Te.wLs [⟨[97], false, .mk k t n lo hi ks⟩] = 3 + t.length + n.length + Te.wEs ks := by
  simp only [Te.wLs, Te.wL, Te.wE, List.length_cons, List.length_nil]; omega
theorem law_TellerRepeats (lo hi n m : Int) (H : Heap) : E n_law04_TellerRepeats [.int .i64 lo, .int .i64 hi, .int .i64 n, .int .i64 m] H = some (.ret (.bool true), H) := by
  rw [law04_TellerRepeats_E, law04_TellerRepeats_eq]
  have li : ∀ z, oLit 1 2 z [(0, .int .i64 n), (1, .int .i64 m)] = some (encI [n, m]) := fun z => oLit_v2 (x := .int .i64 n) (y := .int .i64 m) rfl rfl rfl rfl rfl rfl
  have li' : ∀ k : Int, oBuild [.int .i64 0, .str [], .nils, .int .i64 0, .int .i64 0, .nils] [(0, 1), (1, 1), (2, 1), (3, 1), (4, 1), (5, 1)] [(0, .int .i64 k), (2, encI [n, m])] = some (.agg [.int .i64 k, .str [], encI [n, m], .int .i64 0, .int .i64 0, .nils]) := fun k => bE_nums k _
  have s1 := fun H => l4_same (l := [⟨[97], false, .mk 6 [] [n, m] 0 0 []⟩]) (by rw [wL_small]; simp [Te.wEs]) H
  have s2 := fun H => l4_same (l := [⟨[97], false, .mk 7 [] [n, m] 0 0 []⟩]) (by rw [wL_small]; simp [Te.wEs]) H
  have s3 := fun H => l4_same (l := [⟨[97], false, .mk 3 [] [] lo hi [.mk 4 [97] [] 0 0 []]⟩]) (by rw [wL_small]; simp [Te.wEs, Te.wE]) H
  have s4 := fun H => l4_same (l := [⟨[97], false, .mk 3 [] [] hi lo [.mk 3 [] [] lo hi [.mk 4 [97] [] 0 0 []]]⟩]) (by rw [wL_small]; simp [Te.wEs, Te.wE]) H
  have l1 := fun z => (isE_nn 4 [97] 0 0).lit1 z
  have l2 := fun z => (isE_nk 3 [] lo hi [.mk 4 [97] [] 0 0 []]).lit1 z
  simp (maxDischargeDepth := 9) only [bnd_some, beff_some, bcall_ret, gua_yes, oMove_v, oPick_t, htrunc_self, loadB_var, rt_bool, cells_agg, scalL_nil, scalL_cons, scal_int, scal_str, scal_nils, scal_vs, mr_int, mr_str, mr_nils, mr_vs, mr_agg, mrL_nil, mrL_cons, storeB_var, splice_zero, htrunc_c, hget_o, hget_at, hset_at, oVar_c, takeC, encI_scal, encI_mr, if_true, List.drop_zero, List.drop_succ_cons, List.length_cons, List.length_nil, Nat.zero_add, Bool.and_true, List.append_nil, Nat.reduceAdd, oLoad_ptr, oStore_ptr, List.drop_nil, lt_s, le_s, Nat.le_refl, Nat.lt_add_one, Nat.zero_le, or_true, and_self, Nat.max_self, List.take_zero, List.take_succ_cons, li, li', bE_text, l1, l2, bE_rep, bL_nk, bL_kn, litL_nk, litL_kn, l4_awake, s1, s2, s3, s4]
end Go.Proofs.YthcjjicplodhjaaDoor
end

