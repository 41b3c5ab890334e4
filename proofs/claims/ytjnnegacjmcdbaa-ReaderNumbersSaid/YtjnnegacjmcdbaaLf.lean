/- Lf: a part of the proof that each law of this seat answers true at every input. No condition. -/
import Derived.Test.YtjnnegacjmcdbaaLe
set_option linter.unusedVariables false
set_option linter.unusedSimpArgs false
set_option maxRecDepth 20000
section
/- Laws over numbers of each base. -/
namespace Go.Proofs.Ytjnnegacjmcdbaa
open Go Go.Ev
set_option linter.unusedVariables false
set_option linter.unusedSimpArgs false

theorem c_Numbers_l {zs : List Int} (hz : ∀ n ∈ zs, 0 ≤ n ∧ n ≤ 255) {b : Bool} {H : Heap} : ∀ (m i : Nat) {acc : List UInt8}, 18 - i = m → i ≤ 18 → acc.length ≤ 100 + 8 * i →
    law03_ReaderNumbers_l1 H.length (.vs (zs.map (V.int .u8))) (.bool b) (.str acc) (.int .i64 i) H = some (.ret (.bool true), H)
  | m, i, acc, hm, hi, ha => by
    by_cases h : i < zs.length ∧ i < 18
    · obtain ⟨m, rfl⟩ : ∃ q, m = q + 1 := ⟨m - 1, by omega⟩
      have h1' : (i : Int) < (zs.length : Int) := by omega
      have h2' : (i : Int) < 18 := by omega
      have j2 : ∀ acc' : List UInt8, acc'.length ≤ acc.length + 1 → law03_ReaderNumbers_j2 H.length (.vs (zs.map (V.int .u8))) (.bool b) (.str acc') (.int .i64 i) H = some (.ret (.bool true), H) := by
        intro acc' hac
        rw [law03_ReaderNumbers_j2_eq, lit9, bnd_some]
        refine pickInt_k (Q := fun n => 0 ≤ n ∧ n ≤ 255) (by omega) h1' hz ?_
        intro n hn
        refine to_k (by omega) (by omega) ?_
        refine rem_k (by omega) (by omega) ?_
        refine pickStr_k (m := 1) (by omega) (by simp only [List.length_cons, List.length_nil]; omega) (by decide) ?_
        intro t ht
        refine cat_k (by omega) ?_
        intro t' ht'
        rw [law03_ReaderNumbers_j3_eq]
        refine add_k (by omega) (by omega) ?_
        exact c_Numbers_l hz (b := b) (H := H) m (i + 1) (acc := t') (by omega) (by omega) (by omega)
      rw [law03_ReaderNumbers_l1_eq]
      have cat : ∀ e (c : UInt8), oBin .add e (.str acc) (.str [c]) = some (.str (acc ++ [c])) := fun e c => oBin_cat _ _ _ (by simp only [List.length_cons, List.length_nil]; omega)
      have j2' : ∀ c : UInt8, law03_ReaderNumbers_j2 H.length (.vs (zs.map (V.int .u8))) (.bool b) (.str (acc ++ [c])) (.int .i64 i) H = some (.ret (.bool true), H) := fun c => j2 _ (by simp)
      have j20 := j2 acc (by omega)
      have hrem : ∀ e, oBin .rem e (.int .i64 i) (.int .i64 6) = some (.int .i64 ((i : Int) % 6)) := fun e => by rw [oBin_rem _ _ _ _ (by omega), Int.tmod_eq_emod_of_nonneg (by omega)]
      by_cases h3 : (0 : Int) < (i : Int)
      · by_cases h4 : (i : Int) % 6 = 0
        · cases b with
          | true => simp (maxDischargeDepth := 9) only [bnd_some, cnd_true, gua_yes, oMove_v, oPick_t, oLenSl_vs, oBin_eql, oBin_lss, oBin_gtr, decide_true, List.length_map, h1', h2', h3, hrem, h4, cat, j2']
          | false => simp (maxDischargeDepth := 9) only [bnd_some, cnd_true, cnd_false, gua_yes, oMove_v, oPick_t, oLenSl_vs, oBin_eql, oBin_lss, oBin_gtr, decide_true, List.length_map, h1', h2', h3, hrem, h4, cat, j2']
        · simp (maxDischargeDepth := 9) only [bnd_some, cnd_true, cnd_false, gua_yes, oMove_v, oPick_t, oLenSl_vs, oBin_eql, oBin_lss, oBin_gtr, decide_true, decide_false, List.length_map, h1', h2', h3, hrem, h4, j20]
      · simp (maxDischargeDepth := 9) only [bnd_some, cnd_true, cnd_false, gua_yes, gua_ft, oMove_v, oPick_t, oPick_f, oLenSl_vs, oBin_lss, oBin_gtr, decide_true, decide_false, List.length_map, h1', h2', h3, j20]
    · rw [law03_ReaderNumbers_l1_eq]
      by_cases h1 : i < zs.length
      · have h1' : (i : Int) < (zs.length : Int) := by omega
        have h2' : ¬ (i : Int) < 18 := by omega
        simp (maxDischargeDepth := 9) only [bnd_some, bcall_ret, cnd_false, gua_yes, oMove_v, oPick_t, oLenSl_vs, oBin_lss, oBin_gtr, htrunc_self, rt_bool, decide_true, decide_false, List.length_map, h1', h2', c_awake, c_same]
      · have h1' : ¬ (i : Int) < (zs.length : Int) := by omega
        simp (maxDischargeDepth := 9) only [bnd_some, bcall_ret, cnd_false, gua_yes, gua_ft, oMove_v, oPick_t, oPick_f, oLenSl_vs, oBin_lss, oBin_gtr, htrunc_self, rt_bool, decide_false, List.length_map, h1', c_awake, c_same]
theorem law_ReaderNumbers {x : Int} (hx : 0 ≤ x ∧ x ≤ 255) {zs : List Int} (hz : ∀ n ∈ zs, 0 ≤ n ∧ n ≤ 255) (hl : zs.length ≤ 9223372036854775807) (b : Bool) (H : Heap) : E n_law03_ReaderNumbers [.int .u8 x, .vs (zs.map (V.int .u8)), .bool b] H = some (.ret (.bool true), H) := by
  rw [law03_ReaderNumbers_E, law03_ReaderNumbers_eq, lit6, bnd_some]
  refine to_k (by omega) (by omega) ?_
  refine rem_k (by omega) (by omega) ?_
  refine pickStr_k (m := 1) (by omega) (by simp only [List.length_cons, List.length_nil]; omega) (by decide) ?_
  intro t ht
  refine cat_k (by simp only [List.length_cons, List.length_nil]; omega) ?_
  intro t' ht'
  simp only [List.length_cons, List.length_nil] at ht'
  exact c_Numbers_l hz (b := b) (H := H) 18 0 (by omega) (by omega) (by omega)
end Go.Proofs.Ytjnnegacjmcdbaa
end

