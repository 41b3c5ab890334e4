/- Ty: a part of the proof that each law of this seat answers true at every input. No condition. -/
import Derived.Test.YthcjjicplodhjaaDoorTd
set_option linter.unusedVariables false
set_option linter.unusedSimpArgs false
set_option maxRecDepth 20000
section
/- The statement about any rules. -/
namespace Go.Proofs.YthcjjicplodhjaaDoor
open Go Go.Ev
set_option linter.unusedVariables false
set_option linter.unusedSimpArgs false

theorem wEs_drop {l : List Rd.Expr} {i : Nat} (h : i < l.length) : Te.wEs (l.drop i) = Te.wE l[i] + Te.wEs (l.drop (i + 1)) := by rw [List.drop_eq_getElem_cons h]; rfl
theorem wLs_drop {l : List Rd.Line} {i : Nat} (h : i < l.length) : Te.wLs (l.drop i) = Te.wL l[i] + Te.wLs (l.drop (i + 1)) := by rw [List.drop_eq_getElem_cons h]; rfl
theorem l4_weight_l {l : List Rd.Expr} (hl : l.length ≤ 100000000) {H : Heap} (hk : ∀ k t n lo hi ks, Rd.Expr.mk k t n lo hi ks ∈ l → ∀ H, E n_law04_weight [.vs (encEs ks)] H = some (.ret (.int .i64 (Te.wEs ks)), H)) :
    ∀ (m i : Nat), l.length - i = m → i ≤ l.length → ∀ s : Nat, s + Te.wEs (l.drop i) ≤ 100000000 + (l.length - i) →
    law04_weight_l1 H.length (.vs (encEs l)) (.int .i64 s) (.int .i64 i) H = some (.ret (.int .i64 ((s + Te.wEs (l.drop i) - (l.length - i) : Nat) : Int)), H)
  | m, i, hm, hi, s, hb => by
    have hlen : (encEs l).length = l.length := by rw [encEs_map]; simp
    rw [law04_weight_l1_eq]
    by_cases h : i < l.length
    · have h' : (i : Int) < (l.length : Int) := by omega
      obtain ⟨m, rfl⟩ : ∃ q, m = q + 1 := ⟨m - 1, by omega⟩
      have ix := idxK h
      have hd := wEs_drop h
      rw [hd] at hb ⊢
      have hmem := List.getElem_mem h
      have hw1 := Te.wEs_len (l.drop (i + 1))
      rw [List.length_drop] at hw1
      cases hx : l[i] with
      | mk k t n lo hi ks =>
        rw [hx] at ix hmem hb
        have ih := l4_weight_l hl hk (H := H) m (i + 1) (by omega) (by omega) (s + t.length + n.length + Te.wEs ks) (by simp only [Te.wE] at hb; omega)
        have hks := hk k t n lo hi ks hmem H
        simp only [Te.wE] at hb ⊢
        have a1 : IntKind.i64.wrap ((s : Int) + (t.length : Int)) = (s : Int) + (t.length : Int) := wrap_i64 (by omega) (by omega)
        have a2 : IntKind.i64.wrap ((s : Int) + (t.length : Int) + (n.length : Int)) = (s : Int) + (t.length : Int) + (n.length : Int) := wrap_i64 (by omega) (by omega)
        have a3 : IntKind.i64.wrap ((s : Int) + (t.length : Int) + (n.length : Int) + (Te.wEs ks : Int)) = ((s + t.length + n.length + Te.wEs ks : Nat) : Int) := by rw [wrap_i64 (by omega) (by omega)]; omega
        rw [show s + t.length + n.length + Te.wEs ks + Te.wEs (List.drop (i + 1) l) - (l.length - (i + 1)) = s + (1 + t.length + n.length + Te.wEs ks + Te.wEs (List.drop (i + 1) l)) - (l.length - i) by omega] at ih
        simp only [encE, cells_agg] at ix
        simp (maxDischargeDepth := 9) only [bnd_some, bcall_ret, cnd_true, sch_true, sam_self, oLenStr_str, oLenSl_vs, oBin_add, oBin_lss, htrunc_self, oLoad_fptr, takeCells_1, rt_int, decide_true, List.drop_zero, List.drop_succ_cons, List.length_cons, List.length_nil, Nat.zero_add, Nat.reduceAdd, le_s, Nat.le_refl, hlen, h', ix, oFieldPtr_fptr, lenI, a1, a2, hks, a3, wrap_in h (show l.length ≤ 9223372036854775807 by omega), ih]
    · have h' : ¬ (i : Int) < (l.length : Int) := by omega
      have e : l.drop i = [] := List.drop_of_length_le (by omega)
      rw [e]
      have e2 : ((s + Te.wEs [] - (l.length - i) : Nat) : Int) = (s : Int) := by simp only [Te.wEs]; omega
      rw [e2]
      simp (maxDischargeDepth := 9) only [bnd_some, cnd_false, oLenSl_vs, oBin_add, oBin_lss, htrunc_self, rt_int, decide_false, hlen, h']
theorem l4_weight : ∀ (w : Nat) (l : List Rd.Expr), Te.wEs l ≤ w → w ≤ 100000000 → ∀ H : Heap, E n_law04_weight [.vs (encEs l)] H = some (.ret (.int .i64 (Te.wEs l)), H)
  | 0, l, hw, hm, H => by
    have := Te.wEs_len l
    obtain rfl : l = [] := List.eq_nil_of_length_eq_zero (by omega)
    have hl := l4_weight_l (l := []) (H := H) (by simp) (by simp) 0 0 rfl (by simp) 0 (by simp [Te.wEs])
    simp only [cast_lit, encEs, List.length_nil, List.drop_nil, Te.wEs, Nat.sub_zero, Nat.add_zero] at hl
    rw [law04_weight_E, law04_weight_eq]
    simp (maxDischargeDepth := 9) only [bnd_some, oLenSl_vs, cast_lit, List.length_nil, encEs, hl, Te.wEs]
  | w + 1, l, hw, hm, H => by
    have hlen : (encEs l).length = l.length := by rw [encEs_map]; simp
    have h1 := Te.wEs_len l
    have hl := l4_weight_l (l := l) (H := H) (by omega) (fun k t n lo hi ks hx H => l4_weight w ks (by
      have := Te.wEs_mem hx
      simp only [Te.wE] at this
      omega) (by omega) H) l.length 0 (by omega) (by omega) l.length (by simp only [List.drop_zero]; omega)
    simp only [cast_lit, List.drop_zero, Nat.sub_zero, Nat.add_sub_cancel_left] at hl
    rw [law04_weight_E, law04_weight_eq]
    simp (maxDischargeDepth := 9) only [bnd_some, oLenSl_vs, hlen, hl]
theorem l4_Weight_l {l : List Rd.Line} (hl : Te.wLs l ≤ 50000000) {H : Heap} : ∀ (m i : Nat), l.length - i = m → i ≤ l.length → ∀ s : Nat, s + Te.wLs (l.drop i) ≤ 50000000 →
    law04_Weight_l1 H.length (.vs (l.map encL)) (.int .i64 s) (.int .i64 i) H = some (.ret (.int .i64 ((s + Te.wLs (l.drop i) : Nat) : Int)), H)
  | m, i, hm, hi, s, hb => by
    have hll := Te.wLs_len l
    rw [law04_Weight_l1_eq]
    by_cases h : i < l.length
    · have h' : (i : Int) < (l.length : Int) := by omega
      obtain ⟨m, rfl⟩ : ∃ q, m = q + 1 := ⟨m - 1, by omega⟩
      have ix := idx_L h
      have hd := wLs_drop h
      rw [hd] at hb ⊢
      have ih := l4_Weight_l hl (H := H) m (i + 1) (by omega) (by omega) (s + 1 + l[i].name.length + Te.wE l[i].expr) (by simp only [Te.wL] at hb; omega)
      simp only [Te.wL] at hb ⊢
      have hw := fun H => l4_weight 50000000 [l[i].expr] (by simp only [Te.wEs]; omega) (by omega) H
      simp only [Te.wEs, Nat.add_zero] at hw
      have a0 : IntKind.i64.wrap ((s : Int) + 1) = (s : Int) + 1 := wrap_i64 (by omega) (by omega)
      have a1 : IntKind.i64.wrap ((s : Int) + 1 + (l[i].name.length : Int)) = (s : Int) + 1 + (l[i].name.length : Int) := wrap_i64 (by omega) (by omega)
      have a3 : IntKind.i64.wrap ((s : Int) + 1 + (l[i].name.length : Int) + (Te.wE l[i].expr : Int)) = ((s + 1 + l[i].name.length + Te.wE l[i].expr : Nat) : Int) := by rw [wrap_i64 (by omega) (by omega)]; omega
      rw [show s + 1 + l[i].name.length + Te.wE l[i].expr + Te.wLs (List.drop (i + 1) l) = s + (1 + l[i].name.length + Te.wE l[i].expr + Te.wLs (List.drop (i + 1) l)) by omega] at ih
      have hv : encEs [l[i].expr] = [encE l[i].expr] := rfl
      rw [hv] at hw
      simp (maxDischargeDepth := 9) only [bnd_some, bcall_ret, cnd_true, sch_true, sam_self, oLenStr_str, oLenSl_vs, oBin_add, oBin_lss, htrunc_self, oLoad_fptr, takeCells_1, rt_int, takeC, encE_cells, encE_agg, encE_take6, oLit_encE, decide_true, List.drop_zero, List.drop_succ_cons, List.length_cons, Nat.reduceAdd, le_s, Nat.le_refl, List.length_map, h', ix, oFieldPtr_fptr, takeE, a0, a1, hw, a3, wrap_in h (show l.length ≤ 9223372036854775807 by omega), ih]
    · have h' : ¬ (i : Int) < (l.length : Int) := by omega
      have e : l.drop i = [] := List.drop_of_length_le (by omega)
      rw [e]
      have e2 : ((s + Te.wLs [] : Nat) : Int) = (s : Int) := by simp only [Te.wLs]; omega
      rw [e2]
      simp (maxDischargeDepth := 9) only [bnd_some, cnd_false, oLenSl_vs, oBin_add, oBin_lss, htrunc_self, rt_int, decide_false, List.length_map, h']
theorem l4_Weight {l : List Rd.Line} (hl : Te.wLs l ≤ 50000000) (H : Heap) : E n_law04_Weight [.vs (l.map encL)] H = some (.ret (.int .i64 (Te.wLs l)), H) := by
  have h := l4_Weight_l hl (H := H) l.length 0 (by omega) (by omega) 0 (by simp only [List.drop_zero]; omega)
  simp only [cast_lit, List.drop_zero, Nat.zero_add] at h
  rw [law04_Weight_E, law04_Weight_eq, h]
theorem law_TellerAny {l : List Rd.Line} (hl : Te.wLs l ≤ 50000000) (H : Heap) : E n_law04_TellerAny [.vs (l.map encL)] H = some (.ret (.bool true), H) := by
  rw [law04_TellerAny_E, law04_TellerAny_eq]
  by_cases h : (1000 : Int) < (Te.wLs l : Int)
  · simp (maxDischargeDepth := 9) only [bnd_some, bcall_ret, gua_yes, gua_tf, oMove_v, oPick_t, oBin_gtr, htrunc_self, rt_bool, decide_true, l4_awake, l4_Weight hl, h]
  · have s1 := fun H => l4_same (l := l) (by omega) H
    simp (maxDischargeDepth := 9) only [bnd_some, bcall_ret, gua_yes, oMove_v, oPick_t, oPick_f, oBin_gtr, htrunc_self, rt_bool, decide_false, l4_awake, l4_Weight hl, h, s1]
end Go.Proofs.YthcjjicplodhjaaDoor
end

