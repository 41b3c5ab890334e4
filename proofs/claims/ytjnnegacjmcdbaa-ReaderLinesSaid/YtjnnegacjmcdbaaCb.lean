/- Cb: a part of the proof that each law of this seat answers true at every input. No condition. -/
import Derived.Test.YtjnnegacjmcdbaaCa
set_option linter.unusedVariables false
set_option linter.unusedSimpArgs false
set_option maxRecDepth 20000
section
/- What the program's reader does, function by function: texts and values. -/
namespace Go.Proofs.Ytjnnegacjmcdbaa
open Go Go.Ev
set_option linter.unusedVariables false
set_option linter.unusedSimpArgs false

theorem c_reader_fold {s : List UInt8} {H : Heap} (hl : s.length < 4611686018427387904) : E n_reader_fold [.str s] H = some (.ret (encE (Rd.fold s)), H) := by
  rw [reader_fold_E, reader_fold_eq]
  simp (maxDischargeDepth := 9) only [bnd_some, beff_some, bcall_ret, htrunc_self, loadB_var, cells_int, cells_str, cells_agg, scalL_nil, scalL_cons, scal_int, scal_str, scal_nils, mr_int, mr_str, mr_nils, mr_vs, mr_agg, mrL_nil, mrL_cons, storeB_var, splice_zero, splice_succ, htrunc_c, hget_at, hset_at, oVar_c, takeC, oBuild_nil, oBuild_cons, buildB_some, rt_agg, rtF_some, depth_eq, frz_int, frz_str, frz_nils, frz_agg, mapO_nil, mapO_cons, if_true, List.drop_zero, List.drop_succ_cons, List.length_cons, List.length_nil, Nat.zero_add, Option.bind_some, Option.map_some, Bool.and_true, List.append_nil, List.nil_append, List.cons_append, Nat.reduceAdd, oLoad_ptr, oStore_ptr, List.drop_nil, le_s, Nat.le_refl, Nat.zero_le, or_true, and_self, Nat.max_self, List.take_zero, List.take_succ_cons, c_reader_small hl, List.getElem?_cons_zero, List.getElem?_cons_succ]
  rfl

def intsV (l : List Int) : List V := l.map (V.int .i64)
theorem intsV_clean (l : List Int) : cleanL (intsV l) = true := by induction l with | nil => rfl | cons a l ih => simp [intsV, cleanL, V.clean] at ih ⊢; exact ih
theorem intsV_scal (l : List Int) : scalL (intsV l) = true := by induction l with | nil => rfl | cons a l ih => simp [intsV] at ih ⊢; exact ih
theorem frz_ints {H : Heap} {base n i ver : Nat} {l : List Int} (hg : hget H i = some (.row ver 1 false (intsV l))) (hb : base ≤ i) : frz H base (n + 1 + 1) (.rs i ver 1 0 l.length) = some (encI l) := by
  rw [frz_row hg hb (by simp [intsV]) (by omega) (fun c hc => by simp only [intsV, List.mem_map] at hc; obtain ⟨x, _, rfl⟩ := hc; rfl) (intsV_clean l) (intsV_scal l) (.inr rfl)]
  have := chunk_scal (l := intsV l)
  simp only [intsV, List.length_map] at this ⊢
  rw [this]; rfl
theorem append_int {base i ver : Nat} {H : Heap} {l : List Int} {x : Int} {n : Nat} (hg : hget H i = some (.row ver 1 false (intsV l))) (hn : n = l.length) (hr : l.length < 1000000) :
    oAppend base 1 8 false (.rs i ver 1 0 n) (.vs [.int .i64 x]) H = some (.rs i (ver + 1) 1 0 (n + 1), hset H i (.row (ver + 1) 1 false (intsV (l ++ [x])))) := by
  subst hn
  rw [oAppend_row1 hg (by simp [intsV]) rfl rfl (by omega) (.inr (by simp)) (by simp [roomOk]; omega)]
  simp [intsV]

theorem append_int_nil {base : Nat} {H : Heap} {x : Int} : oAppend base 1 8 false .nils (.vs [.int .i64 x]) H = some (.rs H.length 0 1 0 1, .row 0 1 false (intsV [x]) :: H) :=
  oAppend_nil1 (x := .int .i64 x) rfl rfl (by omega) (by decide)

theorem c_reader_exact_l {s : List UInt8} {H : Heap} (hl : s.length < 1000000) : ∀ (r : List UInt8) (i ver : Nat) (l : List Int), s.drop i = r → i ≤ s.length → i = l.length →
    reader_exact_l1 H.length (.str s) (.ptr H.length 0 0) (.ptr (H.length + 1) 0 0) (.int .i64 s.length) (.int .i64 i)
      (.row ver 1 false (intsV l) :: .var [.int .i64 6, .str [], .rs (H.length + 1 + 1) ver 1 0 l.length, .int .i64 0, .int .i64 0, .nils] :: .var [.int .i64 0, .str [], .nils, .int .i64 0, .int .i64 0, .nils] :: H) =
    some (.ret (encE (.mk 6 [] (l ++ r.map fun c => (c.toNat : Int)) 0 0 [])), H)
  | [], i, ver, l, hd, hi, hil => by
    have : s.length ≤ i := by simpa using hd
    have h1 : ¬ ((i : Int) < (s.length : Int)) := by omega
    rw [reader_exact_l1_eq]
    have h2 := frz_ints (H := .row ver 1 false (intsV l) :: .var [.int .i64 6, .str [], .rs (H.length + 1 + 1) ver 1 0 l.length, .int .i64 0, .int .i64 0, .nils] :: .var [.int .i64 6, .str [], .rs (H.length + 1 + 1) ver 1 0 l.length, .int .i64 0, .int .i64 0, .nils] :: H)
      (base := H.length) (n := 9) (i := H.length + 1 + 1) (ver := ver) (l := l) (by simp) (by omega)
    simp (maxDischargeDepth := 9) only [bnd_some, beff_some, cnd_false, oFieldPtr_ptr, oBin_add, oBin_lss, htrunc_self, loadB_var, takeCells_1, cells_agg, scalL_nil, scalL_cons, scal_int, scal_str, scal_nils, scal_rs, mr_int, mr_str, mr_vs, mr_agg, mrL_nil, mrL_cons, storeB_var, splice_zero, htrunc_c, hget_o, hset_o, hget_at, hset_at, takeC, rt_agg, rtF_some, depth_eq, frz_int, frz_str, frz_nils, frz_agg, mapO_nil, mapO_cons, encI_mr, decide_false, if_true, List.drop_zero, List.drop_succ_cons, List.length_cons, List.length_nil, Nat.zero_add, Option.bind_some, Option.map_some, Bool.and_true, List.append_nil, Nat.reduceAdd, oLoad_ptr, oStore_ptr, List.drop_nil, lt_s, le_s, Nat.le_refl, Nat.lt_add_one, Nat.zero_le, true_or, and_true, and_self, Nat.max_self, List.take_zero, List.take_succ_cons, h1, h2]
    simp only [List.map_nil, List.append_nil]; rfl
  | c :: r, i, ver, l, hd, hi, hil => by
    obtain ⟨g1, g2, g3⟩ := drop_cons hd
    have h1 : (i : Int) < (s.length : Int) := by omega
    have h5 : oIndexStr (.str s) (.int .i64 i) = some (.int .u8 c.toNat) := oIndexStr_at (by omega) (by simpa using g1)
    have ih := c_reader_exact_l (H := H) hl r (i + 1) (ver + 1) (l ++ [(c.toNat : Int)]) g2 (by omega) (by simp [hil])
    have w : IntKind.i64.wrap (c.toNat : Int) = c.toNat := wrap_i64 (by omega) (by have := c.toNat_lt; omega)
    rw [reader_exact_l1_eq]
    simp (maxDischargeDepth := 9) only [bnd_some, beff_some, cnd_true, oFieldPtr_ptr, oIntTo_int, oBin_add, oBin_lss, loadB_var, takeCells_1, cells_agg, scalL_nil, scalL_cons, scal_int, scal_str, scal_nils, scal_rs, storeB_var, splice_zero, hget_o, hset_o, hget_at, hset_at, takeC, oLit_int, rt_agg, depth_eq, frz_int, frz_str, frz_nils, frz_agg, mapO_nil, mapO_cons, decide_true, if_true, List.drop_zero, List.drop_succ_cons, List.length_cons, List.length_nil, Nat.zero_add, Option.bind_some, Option.map_some, Bool.and_true, List.append_nil, Nat.reduceAdd, oLoad_ptr, oStore_ptr, List.drop_nil, lt_s, Nat.le_refl, Nat.lt_add_one, true_or, and_true, and_self, List.take_zero, List.take_succ_cons, h1, h5, w]
    rw [append_int (l := l) (by simp) rfl (by omega)]
    rw [List.length_append, List.length_singleton] at ih
    simp (maxDischargeDepth := 9) only [beff_some, cells_rs, scalL_nil, scalL_cons, scal_rs, mr_rs, storeB_var, splice_zero, splice_succ, hget_o, hset_o, hget_at, hset_at, if_true, List.drop_zero, List.drop_succ_cons, List.length_cons, List.length_nil, Nat.zero_add, Bool.and_true, List.nil_append, List.cons_append, Nat.reduceAdd, Nat.reduceLeDiff, le_s, Nat.le_refl, Nat.lt_add_one, true_or, and_self, wrap_succ (show i < 4611686018427387904 by omega), ih, List.append_assoc, List.map_cons]
theorem c_reader_exact {s : List UInt8} {H : Heap} (hl : s.length < 1000000) : E n_reader_exact [.str s] H = some (.ret (encE (Rd.exact s)), H) := by
  rw [reader_exact_E, reader_exact_eq]
  cases s with
  | nil =>
    have h1 := c_reader_fold (s := []) (H := .var [.int .i64 0, .str [], .nils, .int .i64 0, .int .i64 0, .nils] :: H) (by simp)
    have e1 : encE (Rd.fold []) = .agg [.int .i64 5, .str [], .vs [], .int .i64 0, .int .i64 0, .vs []] := rfl
    rw [e1] at h1
    simp (maxDischargeDepth := 9) only [bnd_some, beff_some, bcall_ret, cnd_true, oLenStr_str, oBin_seql, htrunc_self, loadB_var, cells_agg, scalL_nil, scalL_cons, scal_int, scal_str, scal_nils, scal_vs, mr_int, mr_str, mr_vs, mr_agg, mrL_nil, mrL_cons, storeB_var, splice_zero, cast_lit, htrunc_c, hget_at, hset_at, oVar_c, takeC, oBuild_cons, rt_agg, rtF_some, depth_eq, frz_int, frz_str, frz_vs, frz_agg, mapO_nil, mapO_cons, decide_true, if_true, List.drop_zero, List.drop_succ_cons, List.length_cons, List.length_nil, Nat.zero_add, Option.bind_some, Option.map_some, Bool.and_true, List.append_nil, Nat.reduceAdd, oLoad_ptr, oStore_ptr, List.drop_nil, le_s, Nat.le_refl, Nat.zero_le, or_true, and_true, and_self, Nat.max_self, List.take_zero, List.take_succ_cons, h1]
    rfl
  | cons c r =>
    have ih := c_reader_exact_l (s := c :: r) (H := H) hl r 1 0 [(c.toNat : Int)] rfl (by simp) rfl
    have h1 : (0 : Int) < ((r.length + 1 : Nat) : Int) := by omega
    have w : IntKind.i64.wrap (c.toNat : Int) = c.toNat := wrap_i64 (by omega) (by have := c.toNat_lt; omega)
    have w2 : IntKind.i64.wrap (0 + 1) = 1 := by decide
    have h2 : Rd.exact (c :: r) = .mk 6 [] ([(c.toNat : Int)] ++ r.map fun c => (c.toNat : Int)) 0 0 [] := by simp [Rd.exact]
    rw [h2, ← ih]
    simp (maxDischargeDepth := 9) only [bnd_some, beff_some, cnd_false, oLenStr_str, oBin_seql, cells_int, cells_agg, scalL_nil, scalL_cons, scal_int, scal_str, scal_nils, mr_int, mr_str, mr_nils, mr_agg, mrL_nil, mrL_cons, storeB_var, splice_zero, cast_lit, hget_at, hset_at, oVar_c, oBuild_nil, oBuild_cons, buildB_some, decide_false, if_true, List.drop_zero, List.drop_succ_cons, List.length_cons, List.length_nil, Nat.zero_add, reduceCtorEq, Bool.and_true, List.append_nil, List.nil_append, List.cons_append, Nat.reduceAdd, oStore_ptr, List.drop_nil, le_s, Nat.le_refl, Nat.zero_le, or_true, and_self, Nat.max_self, List.getElem?_cons_zero, List.getElem?_cons_succ]
    rw [reader_exact_l1_eq]
    simp (maxDischargeDepth := 9) only [bnd_some, beff_some, cnd_true, oFieldPtr_ptr, oIntTo_int, oBin_add, oBin_lss, htrunc_self, loadB_var, takeCells_1, oIndexStr_0, cells_agg, scalL_nil, scalL_cons, scal_int, scal_str, scal_nils, mr_int, mr_str, mr_vs, mr_agg, mrL_nil, mrL_cons, storeB_var, splice_zero, htrunc_c, hget_o, hset_o, hget_at, hset_at, takeC, oLit_int, rt_agg, rtF_some, depth_eq, frz_int, frz_str, frz_nils, frz_agg, mapO_nil, mapO_cons, decide_true, if_true, List.drop_zero, List.drop_succ_cons, List.length_cons, List.length_nil, Nat.zero_add, Option.bind_some, Option.map_some, Bool.and_true, List.append_nil, Nat.reduceAdd, Int.reduceAdd, oLoad_ptr, oStore_ptr, List.drop_nil, le_s, Nat.le_refl, Nat.lt_add_one, Nat.zero_le, true_or, and_true, and_self, Nat.max_self, List.take_zero, List.take_succ_cons, h1, w]
    rw [append_int_nil]
    simp (maxDischargeDepth := 9) only [beff_some, cells_rs, scalL_nil, scalL_cons, scal_rs, mr_rs, storeB_var, splice_zero, splice_succ, hget_o, hset_o, hget_at, hset_at, if_true, List.drop_zero, List.drop_succ_cons, List.length_cons, List.length_nil, Nat.zero_add, Bool.and_true, List.nil_append, List.cons_append, Nat.reduceAdd, Nat.reduceLeDiff, le_s, Nat.le_refl, Nat.lt_add_one, true_or, and_self, w2]
    rfl

def natV (n : Nat) : V := .int .i64 n
theorem outR_bind_pan {α : Type} {p : Nat} {H : Heap} {e : Int} {s : List UInt8} {f : α → V} : outR p H f (.err e s : Rd.Res α) = some (.pan (errV e), rdSet H p s) := rfl

theorem c_reader_value {p b : Nat} {s : List UInt8} {H : Heap} (hb : b ≤ 100) (hs : RdAt H p s) : E n_reader_reader_value [.ptr p 0 0, .int .i64 b] H = outR p H natV (Rd.value b s) := by
  rw [reader_reader_value_E, reader_reader_value_eq]
  have h1 := c_reader_number (most := 1114111) hb (by omega) hs
  simp only [show ((1114111 : Nat) : Int) = 1114111 from rfl] at h1
  unfold Rd.value
  rw [h1]
  cases Rd.number b 1114111 s with
  | err e s' => simp only [outR, bcall_pan, Rd.Res.bind, errV, pn_int, rdSet, htrunc_hset]
  | ok r s' =>
    obtain ⟨n, ok⟩ := r
    cases ok with
    | true => simp (maxDischargeDepth := 9) only [bnd_some, bcall_ret, oExtract_0, oExtract_1, rt_int, htrunc_hset, if_true, outR, Rd.Res.bind, c_reader_want, rdSet, natV]
    | false => simp (maxDischargeDepth := 9) only [bnd_some, bcall_ret, bcall_pan, oExtract_0, oExtract_1, pn_int, htrunc_hset, if_false, Bool.false_eq_true, outR, Rd.Res.bind, c_reader_want, rdSet, natV, errV]
end Go.Proofs.Ytjnnegacjmcdbaa
end

section
/- What the program's reader does, function by function: values, and what stands behind a percent sign. -/
namespace Go.Proofs.Ytjnnegacjmcdbaa
open Go Go.Ev
set_option linter.unusedVariables false
set_option linter.unusedSimpArgs false

theorem outR_rdSet {α : Type} {p : Nat} {H : Heap} {s : List UInt8} {f : α → V} (x : Rd.Res α) : outR p (rdSet H p s) f x = outR p H f x := by
  cases x <;> simp only [outR, rdSet, hset_s]
theorem headIs_len {s : List UInt8} {c : Nat} (h : Rd.headIs s c = true) : 1 ≤ s.length := by cases s with | nil => simp [Rd.headIs] at h | cons a s => simp
/-- The reader's text, with blocks on top. -/
theorem rd_o {H : Heap} {p : Nat} {s : List UInt8} {b : Blk} (hs : RdAt H p s) : RdAt (b :: H) p s := by rw [RdAt, hget_o (hget_lt hs)]; exact hs
theorem rdSet_o {H : Heap} {p : Nat} {b : Blk} {s : List UInt8} (hp : p < H.length) : rdSet (b :: H) p s = b :: rdSet H p s := hset_o hp
theorem rd_s {H : Heap} {p : Nat} {s : List UInt8} (hp : p < H.length) : RdAt (rdSet H p s) p s := hget_s hp

def zE : List V := [.int .i64 0, .str [], .nils, .int .i64 0, .int .i64 0, .nils]
def z2 (H : Heap) (l : List Int) (k : Int) (ver : Nat) : Heap := .var [.int .i64 k, .str [], .rs (H.length + 1) ver 1 0 l.length, .int .i64 0, .int .i64 0, .nils] :: .row ver 1 false (intsV l) :: .var zE :: H

theorem c_reader_values_l {p b : Nat} (hb : b ≤ 100) : ∀ (n : Nat) (l : List Int) (ver : Nat) {s : List UInt8} {H : Heap}, RdAt H p s → s.length ≤ n → l.length + n < 900000 →
    reader_reader_values_l1 H.length (.ptr p 0 0) (.int .i64 b) (.ptr H.length 0 0) (.ptr (H.length + 1 + 1) 0 0) (z2 H l 6 ver) = outR p H encE (Rd.valuesL b n l s)
  | n, l, ver, s, H, hs, hn, hl => by
    have hp := hget_lt hs
    have frz1 : ∀ (H' : Heap) (k : Int), H'.length = H.length → frz (.var [.int .i64 k, .str [], .rs (H'.length + 1) ver 1 0 l.length, .int .i64 0, .int .i64 0, .nils] :: .row ver 1 false (intsV l) :: .var [.int .i64 k, .str [], .rs (H'.length + 1) ver 1 0 l.length, .int .i64 0, .int .i64 0, .nils] :: H') H.length 11 (.rs (H'.length + 1) ver 1 0 l.length) = some (encI l) := fun H' k e =>
      frz_ints (n := 9) (by simp only [hget_o (show H'.length + 1 < (Blk.row ver 1 false (intsV l) :: .var [.int .i64 k, .str [], .rs (H'.length + 1) ver 1 0 l.length, .int .i64 0, .int .i64 0, .nils] :: H').length by simp)]; exact hget_at (by simp)) (by omega)
    cases h1 : Rd.headIs s 46 with
    | false =>
      have ht := c_reader_take (H := z2 H l 6 ver) (p := p) (s := s) (rd_o (rd_o (rd_o hs))) 46
      rw [h1] at ht
      have er : Rd.valuesL b n l s = .ok (.mk 6 [] l 0 0 []) s := by cases n <;> simp [Rd.valuesL, h1]
      rw [er, reader_reader_values_l1_eq]
      simp only [show ((46 : Nat) : Int) = 46 from rfl, Bool.false_eq_true, if_false, z2, zE] at ht
      simp only [z2, zE]
      simp (maxDischargeDepth := 9) only [bnd_some, beff_some, bcall_ret, cnd_false, oFieldPtr_ptr, htrunc_self, loadB_var, takeCells_1, cells_agg, scalL_nil, scalL_cons, scal_int, scal_str, scal_nils, scal_rs, mr_int, mr_str, mr_vs, mr_agg, mrL_nil, mrL_cons, storeB_var, splice_zero, htrunc_c, hget_o, hset_o, hget_at, hset_at, takeC, rt_agg, rtF_some, depth_eq, frz_int, frz_str, frz_nils, frz_agg, mapO_nil, mapO_cons, encI_mr, if_true, List.drop_zero, List.drop_succ_cons, List.length_cons, List.length_nil, Nat.zero_add, Option.bind_some, Option.map_some, Bool.and_true, List.append_nil, Nat.reduceAdd, oLoad_ptr, oStore_ptr, List.drop_nil, lt_s, le_s, Nat.le_refl, Nat.lt_add_one, Nat.zero_le, true_or, and_true, and_self, Nat.max_self, List.take_zero, List.take_succ_cons, ht, frz1 H 6 rfl]
      simp only [outR, rdSet, hset_self hs]
      rfl
    | true =>
      have h2 := headIs_len h1
      obtain ⟨m, rfl⟩ : ∃ m, n = m + 1 := ⟨n - 1, by omega⟩
      have ht := c_reader_take (H := z2 H l 6 ver) (p := p) (s := s) (rd_o (rd_o (rd_o hs))) 46
      have hv := c_reader_value (H := z2 (rdSet H p (s.drop 1)) l 6 ver) (p := p) hb (rd_o (rd_o (rd_o (rd_s hp))))
      simp (maxDischargeDepth := 9) only [cast_lit, hset_o, if_true, List.length_cons, hset_length, lt_s, hp, h1, z2, zE] at ht hv
      rw [reader_reader_values_l1_eq, Rd.valuesL, if_pos h1]
      have hle := Rd.value_le b (s.drop 1)
      cases hval : Rd.value b (s.drop 1) with
      | err e s' =>
        simp only [hval, outR, bnd_some, hp] at hv
        simp (maxDischargeDepth := 9) only [bnd_some, beff_some, bcall_ret, bcall_pan, cnd_true, oFieldPtr_ptr, loadB_var, takeCells_1, cells_agg, scalL_nil, scalL_cons, scal_int, scal_str, scal_nils, scal_rs, storeB_var, splice_zero, hget_o, hset_o, hget_at, hset_at, hset_s, takeC, rt_agg, depth_eq, frz_int, frz_str, frz_nils, frz_agg, mapO_nil, mapO_cons, if_true, List.drop_zero, List.drop_succ_cons, List.length_cons, List.length_nil, Nat.zero_add, Option.bind_some, Option.map_some, Bool.and_true, List.append_nil, Nat.reduceAdd, hset_length, oLoad_ptr, oStore_ptr, List.drop_nil, lt_s, Nat.le_refl, Nat.lt_add_one, true_or, and_true, and_self, List.take_zero, List.take_succ_cons, hp, z2, zE, ht, hv]
        simp (maxDischargeDepth := 9) only [pn_int, htrunc_hset, htrunc_c, List.length_cons, hset_length, le_s, Nat.le_refl, outR, Rd.Res.bind, errV]
      | ok v s' =>
        have hs' := Rd.Res.le_ok hle hval
        have ih := c_reader_values_l hb m (l ++ [(v : Int)]) (ver + 1) (s := s') (H := rdSet H p s') (rd_s hp) (by simp at hs'; omega) (by simp; omega)
        rw [outR_rdSet] at ih
        simp only [hval, outR, natV, bnd_some, hp] at hv
        simp (maxDischargeDepth := 9) only [List.length_cons, List.length_nil, Nat.zero_add, hset_length, z2, zE, List.length_append] at ih
        simp (maxDischargeDepth := 9) only [bnd_some, beff_some, bcall_ret, cnd_true, sch_true, sam_self, oFieldPtr_ptr, loadB_var, takeCells_1, cells_agg, scalL_nil, scalL_cons, scal_int, scal_str, scal_nils, scal_rs, storeB_var, splice_zero, hget_o, hset_o, hget_at, hset_at, hset_s, takeC, oLit_int, rt_agg, depth_eq, frz_int, frz_str, frz_nils, frz_agg, mapO_nil, mapO_cons, if_true, List.drop_zero, List.drop_succ_cons, List.length_cons, List.length_nil, Nat.zero_add, Option.bind_some, Option.map_some, Bool.and_true, List.append_nil, Nat.reduceAdd, hset_length, oLoad_ptr, oStore_ptr, List.drop_nil, lt_s, Nat.le_refl, Nat.lt_add_one, true_or, and_true, and_self, List.take_zero, List.take_succ_cons, hp, z2, zE, ht, hv]
        rw [append_int (l := l) (by simp) rfl (by omega)]
        simp (maxDischargeDepth := 9) only [beff_some, cells_rs, scalL_nil, scalL_cons, scal_rs, mr_rs, storeB_var, splice_zero, splice_succ, hset_o, hget_at, hset_at, if_true, List.drop_zero, List.drop_succ_cons, List.length_cons, List.length_nil, Nat.zero_add, Bool.and_true, List.nil_append, List.cons_append, Nat.reduceAdd, hset_length, le_s, Nat.le_refl, Nat.lt_add_one, or_true, and_self, ih, Rd.Res.bind]
theorem c_reader_values {p b : Nat} (hb : b ≤ 100) {s : List UInt8} {H : Heap} (hs : RdAt H p s) (hl : s.length < 800000) :
    E n_reader_reader_values [.ptr p 0 0, .int .i64 b] H = outR p H encE (Rd.values b s) := by
  rw [reader_reader_values_E, reader_reader_values_eq]
  have hp := hget_lt hs
  have hv := c_reader_value (H := .var zE :: H) hb (rd_o hs)
  unfold Rd.values
  have hle := Rd.value_le b s
  cases hval : Rd.value b s with
  | err e s' =>
    simp only [hval, outR, zE] at hv
    simp (maxDischargeDepth := 9) only [hset_o, hp] at hv
    simp (maxDischargeDepth := 9) only [bnd_some, beff_some, bcall_pan, oFieldPtr_ptr, cells_agg, scalL_nil, scalL_cons, scal_int, scal_str, scal_nils, storeB_var, splice_zero, hget_at, hset_at, oVar_c, oBuild_cons, List.length_cons, List.length_nil, Nat.add_zero, Nat.zero_add, Bool.and_true, Nat.reduceAdd, oLoad_ptr, oStore_ptr, Nat.le_refl, and_true, and_self, hv]
    simp (maxDischargeDepth := 9) only [pn_int, htrunc_hset, htrunc_c, hset_length, Nat.le_refl, outR, Rd.Res.bind, errV]
  | ok a s1 =>
    have hs1 := Rd.Res.le_ok hle hval
    simp only [hval, outR, zE, natV] at hv
    simp (maxDischargeDepth := 9) only [hset_o, hp] at hv
    have hz : oRow 1 1 false [.int .i64 0] (.var zE :: hset H p (.var [.str s1])) [(0, .int .i64 a)] = some (.rs (H.length + 1) 0 1 0 1, .row 0 1 false (intsV [(a : Int)]) :: .var zE :: hset H p (.var [.str s1])) := by
      rw [oRow_1 (sz := 1) (x := .int .i64 a) rfl rfl rfl (by omega)]; simp [intsV]
    simp only [zE] at hz
    have ht := c_reader_take (H := z2 (rdSet H p s1) [(a : Int)] 6 0) (p := p) (s := s1) (rd_o (rd_o (rd_o (rd_s hp)))) 45
    simp only [Rd.Res.bind]
    cases h1 : Rd.headIs s1 45 with
    | false =>
      have hlp := c_reader_values_l hb s1.length [(a : Int)] 0 (s := s1) (H := rdSet H p s1) (rd_s hp) (Nat.le_refl _) (by simp; omega)
      rw [outR_rdSet] at hlp
      simp (maxDischargeDepth := 9) only [List.length_cons, List.length_nil, Nat.zero_add, hset_length, hp, z2, zE] at hlp
      simp (maxDischargeDepth := 9) only [cast_lit, hset_o, hset_s, if_false, List.length_cons, List.length_nil, Nat.zero_add, Bool.false_eq_true, hset_length, lt_s, hp, h1, z2, zE] at ht
      simp (maxDischargeDepth := 9) only [bnd_some, beff_some, bcall_ret, cnd_false, oFieldPtr_ptr, loadB_var, takeCells_1, cells_int, cells_rs, cells_agg, scalL_nil, scalL_cons, scal_int, scal_str, scal_nils, scal_rs, mr_int, mr_str, mr_nils, mr_rs, mr_agg, mrL_nil, mrL_cons, storeB_var, splice_zero, splice_succ, hget_at, hset_at, oVar_c, oBuild_nil, oBuild_cons, buildB_some, if_true, if_false, List.drop_zero, List.drop_succ_cons, List.length_cons, List.length_nil, Nat.add_zero, Nat.zero_add, Bool.and_true, Bool.false_eq_true, List.append_nil, List.nil_append, List.cons_append, Nat.reduceAdd, hset_length, oLoad_ptr, oStore_ptr, List.drop_nil, le_s, Nat.le_refl, Nat.zero_le, or_true, and_true, and_self, Nat.max_self, Nat.zero_max, Nat.max_zero, hp, hv, hz, ht, List.getElem?_cons_zero, List.getElem?_cons_succ, hlp]
    | true =>
      have hv2 := c_reader_value (H := z2 (rdSet H p (s1.drop 1)) [(a : Int)] 7 0) (p := p) hb (rd_o (rd_o (rd_o (rd_s hp))))
      simp (maxDischargeDepth := 9) only [cast_lit, hset_o, hset_s, if_true, List.length_cons, List.length_nil, Nat.zero_add, hset_length, lt_s, hp, h1, z2, zE] at ht hv2
      cases hval2 : Rd.value b (s1.drop 1) with
      | err e s' =>
        simp only [hval2, outR] at hv2
        simp (maxDischargeDepth := 9) only [hset_o, hset_s, List.length_cons, hset_length, lt_s, hp] at hv2
        simp (maxDischargeDepth := 9) only [bnd_some, beff_some, bcall_ret, bcall_pan, cnd_true, oFieldPtr_ptr, loadB_var, takeCells_1, cells_int, cells_rs, cells_agg, scalL_nil, scalL_cons, scal_int, scal_str, scal_nils, scal_rs, mr_int, mr_str, mr_nils, mr_rs, mr_agg, mrL_nil, mrL_cons, storeB_var, splice_zero, splice_succ, hget_at, hset_at, oVar_c, oBuild_nil, oBuild_cons, buildB_some, if_true, List.drop_zero, List.drop_succ_cons, List.length_cons, List.length_nil, Nat.add_zero, Nat.zero_add, Bool.and_true, List.append_nil, List.nil_append, List.cons_append, Nat.reduceAdd, hset_length, oLoad_ptr, oStore_ptr, List.drop_nil, le_s, Nat.le_refl, Nat.zero_le, or_true, and_true, and_self, Nat.max_self, Nat.zero_max, Nat.max_zero, hp, hv, hz, ht, hv2, List.getElem?_cons_zero, List.getElem?_cons_succ]
        simp (maxDischargeDepth := 9) only [pn_int, htrunc_hset, htrunc_c, List.length_cons, hset_length, le_s, Nat.le_refl, outR, Rd.Res.bind, errV]
      | ok c s2 =>
        simp only [hval2, outR, natV] at hv2
        simp (maxDischargeDepth := 9) only [hset_o, hset_s, List.length_cons, hset_length, lt_s, hp] at hv2
        simp (maxDischargeDepth := 9) only [bnd_some, beff_some, bcall_ret, cnd_true, sch_true, sam_self, oFieldPtr_ptr, loadB_var, takeCells_1, cells_int, cells_rs, cells_agg, scalL_nil, scalL_cons, scal_int, scal_str, scal_nils, scal_rs, mr_int, mr_str, mr_nils, mr_rs, mr_agg, mrL_nil, mrL_cons, storeB_var, splice_zero, splice_succ, hget_at, hset_at, oVar_c, oBuild_nil, oBuild_cons, buildB_some, oLit_int, if_true, List.drop_zero, List.drop_succ_cons, List.length_cons, List.length_nil, Nat.add_zero, Nat.zero_add, Bool.and_true, List.append_nil, List.nil_append, List.cons_append, Nat.reduceAdd, hset_length, oLoad_ptr, oStore_ptr, List.drop_nil, le_s, Nat.le_refl, Nat.zero_le, or_true, and_true, and_self, Nat.max_self, Nat.zero_max, Nat.max_zero, hp, hv, hz, ht, hv2, List.getElem?_cons_zero, List.getElem?_cons_succ]
        rw [append_int (n := 1) (l := [(a : Int)]) (by simp) rfl (by simp)]
        have i0 : oIndexPtr 1 (.rs (H.length + 1) 1 1 0 2) (.int .i64 0) = some (.ptr (H.length + 1) 1 0) := oIndexPtr_rs (k := .i64) (j := 0) (by omega)
        have i1 : oIndexPtr 1 (.rs (H.length + 1) 1 1 0 2) (.int .i64 1) = some (.ptr (H.length + 1) 1 1) := oIndexPtr_rs (k := .i64) (j := 1) (by omega)
        by_cases hac : a ≤ c
        · have hac' : (a : Int) ≤ (c : Int) := by omega
          have hf : ∀ H' : Heap, hget H' (H.length + 1) = some (.row (0 + 1) 1 false [.int .i64 a, .int .i64 c]) → frz H' H.length 11 (.rs (H.length + 1) (0 + 1) 1 0 (1 + 1)) = some (encI [(a : Int), (c : Int)]) := fun H' hh =>
            frz_ints (n := 9) (l := [(a : Int), (c : Int)]) hh (by omega)
          rw [if_pos hac]
          simp (maxDischargeDepth := 9) only [bnd_some, beff_some, bcall_ret, oBin_leq, loadB_var, loadB_row, takeCells_1, cells_rs, cells_agg, scalL_nil, scalL_cons, scal_int, scal_str, scal_nils, scal_rs, mr_int, mr_str, mr_vs, mr_rs, mr_agg, mrL_nil, mrL_cons, storeB_var, splice_zero, splice_succ, htrunc_hset, htrunc_c, hget_o, hset_o, hget_at, hset_at, takeC, rt_agg, rtF_some, depth_eq, frz_int, frz_str, frz_nils, frz_agg, mapO_nil, mapO_cons, encI_mr, decide_true, if_true, List.drop_zero, List.drop_succ_cons, List.length_cons, List.length_nil, Nat.zero_add, Option.bind_some, Option.map_some, Bool.and_true, List.append_nil, List.nil_append, List.cons_append, Nat.reduceAdd, hset_length, oLoad_ptr, List.drop_nil, lt_s, le_s, Nat.le_refl, Nat.lt_add_one, Nat.zero_le, or_true, true_or, and_true, and_self, Nat.max_self, List.take_zero, List.take_succ_cons, i0, i1, intsV, List.map_cons, List.map_nil, c_reader_want, hac', hf]
          rfl
        · have hac' : ¬ (a : Int) ≤ (c : Int) := by omega
          rw [if_neg hac]
          simp (maxDischargeDepth := 9) only [bnd_some, beff_some, bcall_pan, oBin_leq, loadB_var, loadB_row, takeCells_1, pn_int, cells_rs, scalL_nil, scalL_cons, scal_rs, mr_rs, storeB_var, splice_zero, splice_succ, htrunc_hset, htrunc_c, hget_o, hset_o, hget_at, hset_at, decide_false, if_true, if_false, List.drop_zero, List.drop_succ_cons, List.length_cons, List.length_nil, Nat.zero_add, Bool.and_true, Bool.false_eq_true, List.nil_append, List.cons_append, Nat.reduceAdd, hset_length, oLoad_ptr, le_s, Nat.le_refl, Nat.lt_add_one, or_true, and_self, i0, i1, intsV, List.map_cons, List.map_nil, c_reader_want, hac', outR, errV]

theorem c_reader_begins {p : Nat} {s : List UInt8} {H : Heap} (hs : RdAt H p s) : E n_reader_reader_begins [.ptr p 0 0] H = some (.ret (.bool (Rd.begins s)), H) := by
  rw [reader_reader_begins_E, reader_reader_begins_eq]
  cases s with
  | nil => simp (maxDischargeDepth := 9) only [bnd_some, bcall_ret, gua_ft, gua_tup, oMove_v, oPick_f, oNil_ptr, oFieldPtr_ptr, oBin_sneq, htrunc_self, loadB_var, takeCells_1, rt_bool, decide_true, Bool.not_true, List.drop_zero, Nat.add_zero, oLoad_ptr, hs, Rd.begins]
  | cons c r =>
    have hi : E n_strings_IndexByte [.str [34, 37, 40, 42, 91], .int .u8 c.toNat] H = some (.ret (.int .i64 (idxB [34, 37, 40, 42, 91] c.toNat)), H) := by
      rw [show E = EV Try.prog hint D from rfl, EV_intr (g := iIndexByte) rfl]; have hc := c.toNat_lt; exact if_pos ⟨by omega, by omega⟩
    have hd : decide (0 ≤ idxB [34, 37, 40, 42, 91] c.toNat) = (c.toNat == 34 || c.toNat == 37 || c.toNat == 40 || c.toNat == 42 || c.toNat == 91) := by
      simp only [idxB, show (34 : UInt8).toNat = 34 from rfl, show (37 : UInt8).toNat = 37 from rfl, show (40 : UInt8).toNat = 40 from rfl, show (42 : UInt8).toNat = 42 from rfl, show (91 : UInt8).toNat = 91 from rfl]
      generalize c.toNat = m
      by_cases h1 : m = 34
      · simp [h1]
      · by_cases h2 : m = 37
        · simp [h2]
        · by_cases h3 : m = 40
          · simp [h3]
          · by_cases h4 : m = 42
            · simp [h4]
            · by_cases h5 : m = 91
              · simp [h5]
              · have e1 : ¬ ((34 : Int) = m) := by omega
                have e2 : ¬ ((37 : Int) = m) := by omega
                have e3 : ¬ ((40 : Int) = m) := by omega
                have e4 : ¬ ((42 : Int) = m) := by omega
                have e5 : ¬ ((91 : Int) = m) := by omega
                simp [h1, h2, h3, h4, h5, e1, e2, e3, e4, e5]
    cases h1 : Rd.isLetter c with
    | true => simp (maxDischargeDepth := 9) only [bnd_some, bcall_ret, gua_yes, gua_tf, oMove_v, oPick_t, oNil_ptr, oFieldPtr_ptr, oBin_sneq, htrunc_self, loadB_var, takeCells_1, rt_bool, oIndexStr_0, decide_false, Bool.not_false, List.drop_zero, Nat.add_zero, reduceCtorEq, Bool.true_or, oLoad_ptr, hs, c_reader_isLetter, h1, Rd.begins]
    | false =>
      cases h2 : Rd.isDigit c with
      | true => simp (maxDischargeDepth := 9) only [bnd_some, bcall_ret, gua_yes, gua_tf, oMove_v, oPick_t, oPick_f, oNil_ptr, oFieldPtr_ptr, oBin_sneq, htrunc_self, loadB_var, takeCells_1, rt_bool, oIndexStr_0, decide_false, Bool.not_false, List.drop_zero, Nat.add_zero, reduceCtorEq, Bool.or_true, Bool.true_or, oLoad_ptr, hs, c_reader_isLetter, c_reader_isDigit, h1, h2, Rd.begins]
      | false => simp (maxDischargeDepth := 9) only [bnd_some, bcall_ret, gua_yes, oMove_v, oPick_t, oPick_f, oNil_ptr, oFieldPtr_ptr, oBin_geq, oBin_sneq, htrunc_self, loadB_var, takeCells_1, rt_bool, oIndexStr_0, decide_false, Bool.not_false, List.drop_zero, Nat.add_zero, reduceCtorEq, Bool.or_false, Bool.false_or, oLoad_ptr, hs, c_reader_isLetter, c_reader_isDigit, h1, h2, Rd.begins, hi, hd]

theorem cellsE_cons (e : Rd.Expr) (l : List Rd.Expr) : cellsE (e :: l) = (encE e).cells ++ cellsE l := rfl
theorem take_cellsE (e : Rd.Expr) (l : List Rd.Expr) : V.agg (List.take 6 (cellsE (e :: l))) = encE e := by
  rw [cellsE_cons, List.take_left' (encE_cells e), encE_agg]
/-- What 'some' makes: still of the row, if there are many. -/
def someV (k : Int) (i ver : Nat) (l : List Rd.Expr) : V :=
  match l with
  | [e] => encE e
  | _ => .agg [.int .i64 k, .str [], .vs [], .int .i64 0, .int .i64 0, .rs i ver 6 0 l.length]
theorem c_reader_some {H : Heap} {i ver : Nat} {l : List Rd.Expr} {k : Int} {n : Nat} (hg : hget H i = some (.row ver 6 true (cellsE l))) (hn : n = l.length) (h0 : 0 < n) :
    E n_reader_some [.int .i64 k, .rs i ver 6 0 n] H = some (.ret (someV k i ver l), H) := by
  rw [reader_some_E, reader_some_eq]
  subst hn
  have hi := hget_lt hg
  match l, h0 with
  | [e], _ =>
    have h1 : oIndexPtr 6 (.rs i ver 6 0 [e].length) (.int .i64 0) = some (.ptr i ver 0) := oIndexPtr_rs (k := .i64) (j := 0) (by simp)
    simp only [List.length_cons, List.length_nil, Nat.zero_add] at h1
    simp (maxDischargeDepth := 9) only [bnd_some, beff_some, cnd_true, oLenSl_rs, oBin_eql, htrunc_self, loadB_var, loadB_row, cells_agg, scalL_nil, scalL_cons, scal_int, scal_str, scal_nils, storeB_var, splice_zero, cast_lit, htrunc_c, hget_o, hget_at, hset_at, oVar_c, takeC, oBuild_cons, encE_cells, encE_scal, encE_mr, encE_agg, encE_take6, encE_rt, cellsE_length, decide_true, if_true, List.drop_zero, List.drop_succ_cons, List.length_cons, List.length_nil, Nat.zero_add, Bool.and_true, List.append_nil, Nat.reduceAdd, Nat.reduceMul, oLoad_ptr, oStore_ptr, List.drop_nil, le_s, Nat.le_refl, Nat.zero_le, or_true, and_self, hi, hg, h1, cellsE_length, take_cellsE, someV]
  | a :: b :: l, _ =>
    have h2 : ¬ (((a :: b :: l).length : Nat) : Int) = 1 := by simp; omega
    simp (maxDischargeDepth := 9) only [bnd_some, beff_some, oLenSl_rs, oBin_eql, loadB_var, cells_int, cells_rs, cells_agg, scalL_nil, scalL_cons, scal_int, scal_str, scal_nils, scal_rs, mr_int, mr_str, mr_nils, mr_rs, mr_agg, mrL_nil, mrL_cons, storeB_var, splice_zero, splice_succ, hget_at, hset_at, oVar_c, takeC, oBuild_nil, oBuild_cons, buildB_some, rt_agg, depth_eq, frz_int, frz_str, frz_nils, frz_agg, mapO_nil, mapO_cons, if_true, List.drop_zero, List.drop_succ_cons, List.length_cons, List.length_nil, Nat.zero_add, Option.bind_some, Option.map_some, Bool.and_true, List.append_nil, List.nil_append, List.cons_append, Nat.reduceAdd, Nat.reduceLeDiff, oLoad_ptr, oStore_ptr, List.drop_nil, le_s, Nat.le_refl, true_or, and_true, and_self, Nat.zero_max, Nat.max_zero, List.take_zero, List.take_succ_cons, hi, h2, List.getElem?_cons_zero, List.getElem?_cons_succ, someV]
    have hf : frz (.var [.int .i64 k, .str [], .nils, .int .i64 0, .int .i64 0, .rs i ver 6 0 (l.length + 1 + 1)] :: H) H.length 11 (.rs i ver 6 0 (l.length + 1 + 1)) = some (.rs i ver 6 0 (l.length + 1 + 1)) := by
      simp [frz, hi]
    have hm : i + 1 ≤ H.length := hi
    simp only [List.length_cons] at h2
    simp (maxDischargeDepth := 9) only [cnd_false, htrunc_self, mr_int, mr_str, mr_vs, mr_rs, mr_agg, mrL_nil, mrL_cons, htrunc_c, rtF_some, decide_false, if_true, Option.bind_some, Option.map_some, Nat.le_refl, Nat.zero_max, Nat.max_zero, hi, h2, hf, hm]
end Go.Proofs.Ytjnnegacjmcdbaa
end

section
/- What the program's reader does, function by function: what stands behind a percent sign. -/
namespace Go.Proofs.Ytjnnegacjmcdbaa
open Go Go.Ev
set_option linter.unusedVariables false
set_option linter.unusedSimpArgs false

def mapB : List (V × V) := [(.int .u8 98, .int .i64 2), (.int .u8 100, .int .i64 10), (.int .u8 120, .int .i64 16)]
theorem lookB_base (m : Nat) : lookB 0 (.int .i64 0) (.int .u8 m) (some (.map mapB)) = some (.int .i64 (Rd.baseOf m)) := by
  unfold mapB Rd.baseOf
  by_cases h1 : m = 98
  · subst h1; simp [lookB_map]
  · have e1 : ¬ ((m : Int) = 98) := by omega
    by_cases h2 : m = 100
    · subst h2; simp [lookB_map]
    · have e2 : ¬ ((m : Int) = 100) := by omega
      by_cases h3 : m = 120
      · subst h3; simp [lookB_map]
      · have e3 : ¬ ((m : Int) = 120) := by omega
        simp [lookB_map, h1, h2, h3, e1, e2, e3]
theorem hasPre_quot (r : List UInt8) : hasPre r [34] = Rd.headIs r 34 := by
  unfold hasPre
  cases r with
  | nil => rfl
  | cons b r =>
    have e : (b = 34) ↔ b.toNat = 34 := by rw [← UInt8.toNat_inj]; rfl
    simp [Rd.headIs, e]
    by_cases h : b.toNat = 34 <;> simp [h]
theorem baseOf_le (m : Nat) : Rd.baseOf m ≤ 100 := by unfold Rd.baseOf; split <;> (try split) <;> (try split) <;> omega

theorem quoted_len (r : List UInt8) : ∀ a s', Rd.quoted r = .ok a s' → a.length ≤ r.length := by
  intro a s' h
  unfold Rd.quoted at h
  split at h
  · injection h with h1 h2
    rw [← h1]
    exact Nat.le_trans (takeWhile_le _ _) (by simp)
  · cases h
theorem c_reader_percent {p : Nat} {s : List UInt8} {H : Heap} (hs : RdAt H p s) (h1 : 1 ≤ s.length) (hl : s.length < 800000) : E n_reader_reader_percent [.ptr p 0 0] H = outR p H encE (Rd.percent s) := by
  have hp := hget_lt hs
  have hc := c_reader_cut (H := .var zE :: H) (rd_o hs) 1 h1
  simp (maxDischargeDepth := 9) only [cast_lit, hset_o, hp, zE] at hc
  rw [reader_reader_percent_E, reader_reader_percent_eq]
  unfold Rd.percent
  cases hd : s.drop 1 with
  | nil =>
    rw [hd] at hc
    simp (maxDischargeDepth := 9) only [bnd_some, beff_some, bcall_ret, bcall_pan, oMove_v, oNil_ptr, oFieldPtr_ptr, oBin_sneq, loadB_var, takeCells_1, pn_int, cells_agg, scalL_nil, scalL_cons, scal_int, scal_str, scal_nils, mr_int, htrunc_hset, htrunc_c, hget_o, hget_s, hget_at, hset_at, oVar_c, oMap_v, rKey_int, findV_nil, findV_int, updB_map, decide_true, Bool.not_true, if_true, if_false, List.drop_zero, Nat.add_zero, Nat.zero_add, Option.map_some, Bool.and_true, Bool.false_eq_true, List.nil_append, List.cons_append, hset_length, oLoad_ptr, oUpdate_mapr, oLookup_mapr, le_s, Nat.le_refl, Nat.zero_le, or_true, and_self, hp, hc, c_reader_want, outR, errV]
  | cons c r =>
    have hr : r.length < 800000 := by
      have := congrArg List.length hd
      simp at this; omega
    rw [hd] at hc
    have hsl : oSliceStr (.str (c :: r)) (some (.int .i64 1)) none none = some (.str r) := oSliceStr_from (s := c :: r) (k := .i64) (n := 1) (by omega) (by simp; omega)
    have hw := or_u8 c.toNat c.toNat_lt
    have hmap := lookB_base (c.toNat ||| 32)
    simp only
    generalize c.toNat ||| 32 = m at *
    generalize hb : Rd.baseOf m = b at *
    have hb100 : b ≤ 100 := by rw [← hb]; exact baseOf_le m
    have hc2 : ∀ (T : Blk), E n_reader_reader_cut [.ptr p 0 0, .int .i64 1] (T :: .var zE :: hset H p (.var [.str (c :: r)])) = some (.ret (.str [c]), T :: .var zE :: hset H p (.var [.str r])) := by
      intro T
      have := c_reader_cut (H := T :: .var zE :: hset H p (.var [.str (c :: r)])) (p := p) (s := c :: r) (rd_o (rd_o (rd_s hp))) 1 (by simp)
      simp (maxDischargeDepth := 9) only [cast_lit, hset_o, hset_s, List.drop_zero, List.drop_succ_cons, List.length_cons, hset_length, lt_s, List.take_zero, List.take_succ_cons, hp, zE] at this ⊢
      exact this
    simp only [zE, mapB] at hc2 hmap
    have h120 : ¬ (120 : Int) = 98 := by omega
    have h120' : ¬ (120 : Int) = 100 := by omega
    have h100 : ¬ (100 : Int) = 98 := by omega
    cases hL : Rd.isLetter c with
    | false =>
      simp (maxDischargeDepth := 9) only [bnd_some, beff_some, bcall_ret, bcall_pan, gua_ft, gua_tup, oMove_v, oPick_f, oNil_ptr, oFieldPtr_ptr, oBin_or, oBin_sneq, loadB_var, takeCells_1, pn_int, oIndexStr_0, cells_agg, scalL_nil, scalL_cons, scal_int, scal_str, scal_nils, mr_int, htrunc_hset, htrunc_c, hget_o, hget_s, hget_at, hset_at, oVar_c, oMap_v, rKey_int, findV_nil, findV_int, updB_map, decide_false, Bool.not_false, if_true, if_false, List.drop_zero, List.length_cons, Nat.add_zero, Nat.zero_add, Option.map_some, reduceCtorEq, Bool.and_true, Bool.false_eq_true, List.nil_append, List.cons_append, Nat.reduceAdd, hset_length, oLoad_ptr, oUpdate_mapr, oLookup_mapr, lt_s, le_s, Nat.le_refl, Nat.zero_le, or_true, and_self, false_and, hp, hc, c_reader_want, hsl, c_strings_HasPrefix, hasPre_quot, hw, h120, h120', h100, hmap, c_reader_isLetter, hL]
      by_cases hb0 : (0 : Int) < (b : Int)
      · simp (maxDischargeDepth := 9) only [bnd_some, hp, hb0, c_reader_want, outR, errV]
      · simp (maxDischargeDepth := 9) only [bnd_some, hp, hb0, c_reader_want, outR, errV]
    | true =>
      by_cases hb0 : 0 < b
      · have hb0' : (0 : Int) < (b : Int) := by omega
        have hv := c_reader_values (H := .map mapB :: .var zE :: hset H p (.var [.str r])) (p := p) hb100 (rd_o (rd_o (rd_s hp))) hr
        simp only [mapB, zE] at hv
        rw [if_pos ⟨rfl, .inl hb0⟩, if_pos hb0]
        cases hval : Rd.values b r with
        | err e s' =>
          simp (maxDischargeDepth := 9) only [hset_o, hset_s, List.length_cons, hset_length, lt_s, hp, hval, outR] at hv
          simp (maxDischargeDepth := 9) only [bnd_some, beff_some, bcall_ret, bcall_pan, cnd_true, gua_yes, gua_tf, gua_tup, oMove_v, oPick_t, oNil_ptr, oFieldPtr_ptr, oBin_eql, oBin_gtr, oBin_or, oBin_sneq, loadB_var, takeCells_1, oIndexStr_0, cells_agg, scalL_nil, scalL_cons, scal_int, scal_str, scal_nils, mr_int, hget_o, hget_s, hget_at, hset_at, oVar_c, oMap_v, rKey_int, findV_nil, findV_int, updB_map, decide_true, decide_false, Bool.not_false, if_true, if_false, List.drop_zero, List.length_cons, Nat.add_zero, Nat.zero_add, Option.map_some, reduceCtorEq, Bool.and_true, List.nil_append, List.cons_append, Nat.reduceAdd, hset_length, oLoad_ptr, oStore_ptr, oUpdate_mapr, oLookup_mapr, lt_s, le_s, Nat.zero_le, or_true, and_self, hp, hc, c_reader_want, hsl, c_strings_HasPrefix, hasPre_quot, hw, h120, h120', h100, hmap, c_reader_isLetter, hL, hb0', hc2, hv]
          simp (maxDischargeDepth := 9) only [pn_int, htrunc_hset, htrunc_c, List.length_cons, hset_length, le_s, Nat.le_refl, outR, errV]
        | ok a s' =>
          simp (maxDischargeDepth := 9) only [hset_o, hset_s, List.length_cons, hset_length, lt_s, hp, hval, outR] at hv
          simp (maxDischargeDepth := 9) only [bnd_some, beff_some, bcall_ret, cnd_true, gua_yes, gua_tf, gua_tup, oMove_v, oPick_t, oNil_ptr, oFieldPtr_ptr, oBin_eql, oBin_gtr, oBin_or, oBin_sneq, loadB_var, takeCells_1, oIndexStr_0, cells_agg, scalL_nil, scalL_cons, scal_int, scal_str, scal_nils, mr_int, storeB_var, splice_zero, htrunc_hset, htrunc_c, hget_o, hset_o, hget_s, hget_at, hset_at, oVar_c, takeC, oMap_v, rKey_int, findV_nil, findV_int, updB_map, encE_cells, encE_scal, encE_mr, encE_agg, encE_take6, encE_rt, decide_true, decide_false, Bool.not_false, if_true, if_false, List.drop_zero, List.drop_succ_cons, List.length_cons, List.length_nil, Nat.add_zero, Nat.zero_add, Option.map_some, reduceCtorEq, Bool.and_true, List.append_nil, List.nil_append, List.cons_append, Nat.reduceAdd, hset_length, oLoad_ptr, oStore_ptr, oUpdate_mapr, oLookup_mapr, List.drop_nil, lt_s, le_s, Nat.le_refl, Nat.lt_add_one, Nat.zero_le, or_true, and_self, hp, hc, c_reader_want, hsl, c_strings_HasPrefix, hasPre_quot, hw, h120, h120', h100, hmap, c_reader_isLetter, hL, hb0', hc2, hv, outR]
      · have hb0' : ¬ (0 : Int) < (b : Int) := by omega
        cases hq : Rd.headIs r 34 with
        | false =>
          rw [if_neg (by simp; omega)]
          simp (maxDischargeDepth := 9) only [bnd_some, beff_some, bcall_ret, bcall_pan, gua_yes, gua_ft, gua_tup, oMove_v, oPick_t, oPick_f, oNil_ptr, oFieldPtr_ptr, oBin_gtr, oBin_or, oBin_sneq, loadB_var, takeCells_1, pn_int, oIndexStr_0, cells_agg, scalL_nil, scalL_cons, scal_int, scal_str, scal_nils, mr_int, htrunc_hset, htrunc_c, hget_o, hget_s, hget_at, hset_at, oVar_c, oMap_v, rKey_int, findV_nil, findV_int, updB_map, decide_false, Bool.not_false, if_true, if_false, List.drop_zero, List.length_cons, Nat.add_zero, Nat.zero_add, Option.map_some, reduceCtorEq, Bool.and_true, Bool.false_eq_true, List.nil_append, List.cons_append, Nat.reduceAdd, hset_length, oLoad_ptr, oUpdate_mapr, oLookup_mapr, lt_s, le_s, Nat.le_refl, Nat.zero_le, or_true, and_self, hp, hc, c_reader_want, hsl, c_strings_HasPrefix, hasPre_quot, hw, h120, h120', h100, hmap, c_reader_isLetter, hL, hq, hb0', outR, errV]
        | true =>
          have hr1 := headIs_len hq
          have hv := c_reader_quoted (H := .map mapB :: .var zE :: hset H p (.var [.str r])) (p := p) (s := r) (rd_o (rd_o (rd_s hp))) hr1 (by omega)
          simp only [mapB, zE] at hv
          have hle := quoted_len r
          by_cases hi : m = 105
          · have hi' : decide ((m : Int) = 105) = true := by simp; omega
            rw [if_pos (by simp [hi]), if_neg hb0, if_pos hi]
            cases hval : Rd.quoted r with
            | err e s' =>
              simp (maxDischargeDepth := 9) only [hset_o, hset_s, List.length_cons, hset_length, lt_s, hp, hval, outR] at hv
              simp (maxDischargeDepth := 9) only [bnd_some, beff_some, bcall_ret, bcall_pan, cnd_true, cnd_false, gua_yes, gua_tf, oMove_v, oPick_t, oPick_f, oNil_ptr, oFieldPtr_ptr, oBin_eql, oBin_gtr, oBin_or, oBin_sneq, loadB_var, takeCells_1, pn_int, oIndexStr_0, cells_agg, scalL_nil, scalL_cons, scal_int, scal_str, scal_nils, mr_int, htrunc_hset, htrunc_c, hget_o, hget_s, hget_at, hset_at, oVar_c, oMap_v, rKey_int, findV_nil, findV_int, updB_map, decide_false, Bool.not_false, if_true, if_false, List.drop_zero, List.length_cons, Nat.add_zero, Nat.zero_add, Option.map_some, reduceCtorEq, Bool.and_true, List.nil_append, List.cons_append, Nat.reduceAdd, hset_length, oLoad_ptr, oStore_ptr, oUpdate_mapr, oLookup_mapr, lt_s, le_s, Nat.le_refl, Nat.zero_le, or_true, and_self, hp, hc, c_reader_want, hsl, c_strings_HasPrefix, hasPre_quot, hw, h120, h120', h100, hmap, c_reader_isLetter, hL, hq, hb0', hc2, hv, hi', outR, errV, Rd.Res.bind]
            | ok a s' =>
              simp (maxDischargeDepth := 9) only [hset_o, hset_s, List.length_cons, hset_length, lt_s, hp, hval, outR] at hv
              have hfo : ∀ H, E n_reader_fold [.str a] H = some (.ret (encE (Rd.fold a)), H) := fun H => c_reader_fold (by have := hle a s' hval; omega)
              simp (maxDischargeDepth := 9) only [bnd_some, beff_some, bcall_ret, cnd_true, cnd_false, gua_yes, gua_tf, oMove_v, oPick_t, oPick_f, oNil_ptr, oFieldPtr_ptr, oBin_eql, oBin_gtr, oBin_or, oBin_sneq, loadB_var, takeCells_1, oIndexStr_0, cells_agg, scalL_nil, scalL_cons, scal_int, scal_str, scal_nils, mr_int, storeB_var, splice_zero, htrunc_hset, htrunc_c, hget_o, hset_o, hget_s, hget_at, hset_at, oVar_c, takeC, oMap_v, rKey_int, findV_nil, findV_int, updB_map, encE_cells, encE_scal, encE_mr, encE_agg, encE_take6, encE_rt, decide_false, Bool.not_false, if_true, if_false, List.drop_zero, List.drop_succ_cons, List.length_cons, List.length_nil, Nat.add_zero, Nat.zero_add, Option.map_some, reduceCtorEq, Bool.and_true, List.append_nil, List.nil_append, List.cons_append, Nat.reduceAdd, hset_length, oLoad_ptr, oStore_ptr, oUpdate_mapr, oLookup_mapr, List.drop_nil, lt_s, le_s, Nat.le_refl, Nat.lt_add_one, Nat.zero_le, or_true, and_self, hp, hc, c_reader_want, hsl, c_strings_HasPrefix, hasPre_quot, hw, h120, h120', h100, hmap, c_reader_isLetter, hL, hq, hb0', hc2, hv, hfo, hi', outR, errV, Rd.Res.bind]
          · have hi' : decide ((m : Int) = 105) = false := by simp; omega
            by_cases hj : m = 115
            · have hj' : decide ((m : Int) = 115) = true := by simp; omega
              rw [if_pos (by simp [hj]), if_neg hb0, if_neg hi]
              cases hval : Rd.quoted r with
              | err e s' =>
                simp (maxDischargeDepth := 9) only [hset_o, hset_s, List.length_cons, hset_length, lt_s, hp, hval, outR] at hv
                simp (maxDischargeDepth := 9) only [bnd_some, beff_some, bcall_ret, bcall_pan, cnd_false, gua_yes, oMove_v, oPick_t, oPick_f, oNil_ptr, oFieldPtr_ptr, oBin_eql, oBin_gtr, oBin_or, oBin_sneq, loadB_var, takeCells_1, pn_int, oIndexStr_0, cells_agg, scalL_nil, scalL_cons, scal_int, scal_str, scal_nils, mr_int, htrunc_hset, htrunc_c, hget_o, hget_s, hget_at, hset_at, oVar_c, oMap_v, rKey_int, findV_nil, findV_int, updB_map, decide_false, Bool.not_false, if_true, if_false, List.drop_zero, List.length_cons, Nat.add_zero, Nat.zero_add, Option.map_some, reduceCtorEq, Bool.and_true, List.nil_append, List.cons_append, Nat.reduceAdd, hset_length, oLoad_ptr, oStore_ptr, oUpdate_mapr, oLookup_mapr, lt_s, le_s, Nat.le_refl, Nat.zero_le, or_true, and_self, hp, hc, c_reader_want, hsl, c_strings_HasPrefix, hasPre_quot, hw, h120, h120', h100, hmap, c_reader_isLetter, hL, hq, hb0', hc2, hv, hi', hj', outR, errV, Rd.Res.bind]
              | ok a s' =>
                simp (maxDischargeDepth := 9) only [hset_o, hset_s, List.length_cons, hset_length, lt_s, hp, hval, outR] at hv
                have hfo : ∀ H, E n_reader_exact [.str a] H = some (.ret (encE (Rd.exact a)), H) := fun H => c_reader_exact (by have := hle a s' hval; omega)
                simp (maxDischargeDepth := 9) only [bnd_some, beff_some, bcall_ret, cnd_false, gua_yes, oMove_v, oPick_t, oPick_f, oNil_ptr, oFieldPtr_ptr, oBin_eql, oBin_gtr, oBin_or, oBin_sneq, loadB_var, takeCells_1, oIndexStr_0, cells_agg, scalL_nil, scalL_cons, scal_int, scal_str, scal_nils, mr_int, storeB_var, splice_zero, htrunc_hset, htrunc_c, hget_o, hset_o, hget_s, hget_at, hset_at, oVar_c, takeC, oMap_v, rKey_int, findV_nil, findV_int, updB_map, encE_cells, encE_scal, encE_mr, encE_agg, encE_take6, encE_rt, decide_false, Bool.not_false, if_true, if_false, List.drop_zero, List.drop_succ_cons, List.length_cons, List.length_nil, Nat.add_zero, Nat.zero_add, Option.map_some, reduceCtorEq, Bool.and_true, List.append_nil, List.nil_append, List.cons_append, Nat.reduceAdd, hset_length, oLoad_ptr, oStore_ptr, oUpdate_mapr, oLookup_mapr, List.drop_nil, lt_s, le_s, Nat.le_refl, Nat.lt_add_one, Nat.zero_le, or_true, and_self, hp, hc, c_reader_want, hsl, c_strings_HasPrefix, hasPre_quot, hw, h120, h120', h100, hmap, c_reader_isLetter, hL, hq, hb0', hc2, hv, hfo, hi', hj', outR, errV, Rd.Res.bind]
            · have hj' : decide ((m : Int) = 115) = false := by simp; omega
              rw [if_neg (by simp [hi, hj]; omega)]
              simp (maxDischargeDepth := 9) only [bnd_some, beff_some, bcall_ret, bcall_pan, gua_yes, oMove_v, oPick_t, oPick_f, oNil_ptr, oFieldPtr_ptr, oBin_eql, oBin_gtr, oBin_or, oBin_sneq, loadB_var, takeCells_1, pn_int, oIndexStr_0, cells_agg, scalL_nil, scalL_cons, scal_int, scal_str, scal_nils, mr_int, htrunc_hset, htrunc_c, hget_o, hget_s, hget_at, hset_at, oVar_c, oMap_v, rKey_int, findV_nil, findV_int, updB_map, decide_false, Bool.not_false, if_true, if_false, List.drop_zero, List.length_cons, Nat.add_zero, Nat.zero_add, Option.map_some, reduceCtorEq, Bool.and_true, Bool.false_eq_true, List.nil_append, List.cons_append, Nat.reduceAdd, hset_length, oLoad_ptr, oUpdate_mapr, oLookup_mapr, lt_s, le_s, Nat.le_refl, Nat.zero_le, or_true, and_self, hp, hc, c_reader_want, hsl, c_strings_HasPrefix, hasPre_quot, hw, h120, h120', h100, hmap, c_reader_isLetter, hL, hq, hb0', hi', hj', outR, errV]
end Go.Proofs.Ytjnnegacjmcdbaa
end

