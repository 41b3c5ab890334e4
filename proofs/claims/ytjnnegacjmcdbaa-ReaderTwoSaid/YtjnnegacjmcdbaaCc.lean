/- Cc: a part of the proof that each law of this seat answers true at every input. No condition. -/
import Derived.Test.YtjnnegacjmcdbaaCb
set_option linter.unusedVariables false
set_option linter.unusedSimpArgs false
set_option maxRecDepth 20000
section
/- What the program's reader does, function by function: expressions. -/
namespace Go.Proofs.Ytjnnegacjmcdbaa
open Go Go.Ev
set_option linter.unusedVariables false
set_option linter.unusedSimpArgs false

/-- What a call at a text comes to. -/
def ConE (n : FuncId) (extra : List V) (f : List UInt8 → Rd.Res Rd.Expr) : Prop :=
  ∀ {p : Nat} {s : List UInt8} {H : Heap}, RdAt H p s → s.length < 60000 → E n (.ptr p 0 0 :: extra) H = outR p H encE (f s)
def GrpC (d : Int) (grp : Nat → List UInt8 → Rd.Res Rd.Expr) : Prop :=
  ∀ {p : Nat} {s : List UInt8} {H : Heap} (fin : Nat), RdAt H p s → 1 ≤ s.length → s.length < 60000 → E n_reader_reader_group [.ptr p 0 0, .int .u8 fin, .int .i64 d] H = outR p H encE (grp fin s)

theorem c_reader_group_0 : GrpC 50 (fun _ s => .err 2 (s.drop 1)) := by
  intro p s H fin hs h1 hl
  have hp := hget_lt hs
  have hc := c_reader_cut (H := .var zE :: H) (rd_o hs) 1 h1
  simp (maxDischargeDepth := 9) only [cast_lit, hset_o, hp, zE] at hc
  rw [reader_reader_group_E, reader_reader_group_eq]
  have h50 : ¬ (50 : Int) < 50 := by omega
  simp (maxDischargeDepth := 9) only [bnd_some, beff_some, bcall_ret, bcall_pan, oBin_lss, pn_int, cells_agg, scalL_nil, scalL_cons, scal_int, scal_str, scal_nils, htrunc_hset, htrunc_c, oVar_c, decide_false, if_false, Bool.and_true, Bool.false_eq_true, hset_length, Nat.le_refl, hp, hc, c_reader_want, h50, outR, errV]

theorem c_reader_group_s {d : Nat} {W : List UInt8 → Rd.Res Rd.Expr} (hd : d < 50) (hW : ConE n_reader_reader_ways [.int .i64 ((d + 1 : Nat) : Int)] W) (hle : ∀ s, (W s).le s.length) : GrpC d (Rd.group W) := by
  intro p s H fin hs h1 hl
  have hp := hget_lt hs
  have hc := c_reader_cut (H := .var zE :: H) (rd_o hs) 1 h1
  have hd' : (d : Int) < 50 := by omega
  have hlr : (s.drop 1).length < 60000 := by simp; omega
  have hr := c_reader_room (H := .var zE :: rdSet H p (s.drop 1)) (p := p) (s := s.drop 1) (rd_o (rd_s hp)) (by omega)
  have hlr2 := Rd.room_le (s.drop 1)
  have hw := hW (p := p) (s := Rd.room (s.drop 1)) (H := .var zE :: rdSet H p (Rd.room (s.drop 1))) (rd_o (rd_s hp)) (by omega)
  have hwr : IntKind.i64.wrap ((d : Int) + 1) = ((d + 1 : Nat) : Int) := wrap_succ (by omega)
  simp (maxDischargeDepth := 9) only [cast_lit, hset_o, hset_s, hset_length, hp, zE] at hc hr hw
  rw [reader_reader_group_E, reader_reader_group_eq]
  unfold Rd.group
  have hle1 := hle (Rd.room (s.drop 1))
  cases hval : W (Rd.room (s.drop 1)) with
  | err e s' =>
    simp (maxDischargeDepth := 9) only [hset_o, hset_s, hset_length, hp, hval, outR] at hw
    simp (maxDischargeDepth := 9) only [bnd_some, beff_some, bcall_ret, bcall_pan, oBin_add, oBin_lss, pn_int, cells_agg, scalL_nil, scalL_cons, scal_int, scal_str, scal_nils, storeB_var, splice_zero, htrunc_hset, htrunc_c, hget_at, hset_at, oVar_c, decide_true, if_true, List.length_cons, List.length_nil, Nat.zero_add, Bool.and_true, Nat.reduceAdd, hset_length, oLoad_ptr, oStore_ptr, Nat.le_refl, and_true, and_self, hp, hc, c_reader_want, hd', hr, hwr, hw, outR, errV, Rd.Res.bind]
  | ok a s1 =>
    have hs1 := Rd.Res.le_ok hle1 hval
    have hr2 := c_reader_room (H := .var (encE a).cells :: .var zE :: rdSet H p s1) (p := p) (s := s1) (rd_o (rd_o (rd_s hp))) (by omega)
    have ht := c_reader_take (H := .var (encE a).cells :: .var zE :: rdSet H p (Rd.room s1)) (p := p) (s := Rd.room s1) (rd_o (rd_o (rd_s hp))) fin
    simp (maxDischargeDepth := 9) only [hset_o, hset_s, hset_length, hp, hval, outR] at hw
    simp (maxDischargeDepth := 9) only [hset_o, hset_s, List.length_cons, hset_length, lt_s, hp, zE] at hr2
    cases hh : Rd.headIs (Rd.room s1) fin with
    | false =>
      simp (maxDischargeDepth := 9) only [hset_o, hset_s, if_false, List.length_cons, Bool.false_eq_true, hset_length, lt_s, hp, zE, hh] at ht
      simp (maxDischargeDepth := 9) only [bnd_some, beff_some, bcall_ret, bcall_pan, oBin_add, oBin_lss, pn_int, cells_agg, scalL_nil, scalL_cons, scal_int, scal_str, scal_nils, storeB_var, splice_zero, htrunc_hset, htrunc_c, hget_at, hset_at, oVar_c, encE_cells, encE_scal, encE_mr, decide_true, if_true, if_false, List.drop_succ_cons, List.length_cons, List.length_nil, Nat.zero_add, Bool.and_true, Bool.false_eq_true, List.append_nil, Nat.reduceAdd, hset_length, oLoad_ptr, oStore_ptr, List.drop_nil, le_s, Nat.le_refl, Nat.zero_le, or_true, and_true, and_self, hp, hc, c_reader_want, hd', hr, hwr, hw, outR, errV, Rd.Res.bind, hr2, ht, hh]
    | true =>
      simp (maxDischargeDepth := 9) only [hset_o, hset_s, if_true, List.length_cons, hset_length, lt_s, hp, zE, hh] at ht
      simp (maxDischargeDepth := 9) only [bnd_some, beff_some, bcall_ret, oBin_add, oBin_lss, loadB_var, cells_agg, scalL_nil, scalL_cons, scal_int, scal_str, scal_nils, storeB_var, splice_zero, htrunc_hset, htrunc_c, hget_o, hset_o, hget_at, hset_at, oVar_c, takeC, encE_cells, encE_scal, encE_mr, encE_agg, encE_take6, encE_rt, decide_true, if_true, List.drop_zero, List.drop_succ_cons, List.length_cons, List.length_nil, Nat.zero_add, Bool.and_true, List.append_nil, Nat.reduceAdd, hset_length, oLoad_ptr, oStore_ptr, List.drop_nil, le_s, Nat.le_refl, Nat.lt_add_one, Nat.zero_le, or_true, and_true, and_self, hp, hc, c_reader_want, hd', hr, hwr, hw, outR, errV, Rd.Res.bind, hr2, ht, hh]

theorem c_reader_element {d : Int} {grp : Nat → List UInt8 → Rd.Res Rd.Expr} (hg : GrpC d grp) : ConE n_reader_reader_element [.int .i64 d] (Rd.elementG grp) := by
  intro p s H hs hl
  have hp := hget_lt hs
  have i40 := c_reader_is (H := .var zE :: H) (rd_o hs) 40
  have i91 := c_reader_is (H := .var zE :: H) (rd_o hs) 91
  have i34 := c_reader_is (H := .var zE :: H) (rd_o hs) 34
  have i37 := c_reader_is (H := .var zE :: H) (rd_o hs) 37
  simp (maxDischargeDepth := 9) only [cast_lit, zE] at i40 i91 i34 i37
  rw [reader_reader_element_E, reader_reader_element_eq]
  unfold Rd.elementG
  cases h40 : Rd.headIs s 40 with
  | true =>
    have hv := hg (H := .var zE :: H) 41 (rd_o hs) (headIs_len h40) hl
    simp (maxDischargeDepth := 9) only [cast_lit, zE] at hv
    cases hval : grp 41 s with
    | err e s' =>
      simp (maxDischargeDepth := 9) only [hset_o, hp, hval, outR] at hv
      simp (maxDischargeDepth := 9) only [beff_some, bcall_ret, bcall_pan, cnd_true, pn_int, cells_agg, scalL_nil, scalL_cons, scal_int, scal_str, scal_nils, htrunc_hset, htrunc_c, oVar_c, oBuild_cons, if_true, Bool.and_true, hset_length, oLoad_ptr, oStore_ptr, Nat.le_refl, hp, i40, h40, hv, outR, errV, hval]
    | ok a s' =>
      simp (maxDischargeDepth := 9) only [hset_o, hp, hval, outR] at hv
      simp (maxDischargeDepth := 9) only [bnd_some, beff_some, bcall_ret, cnd_true, loadB_var, cells_agg, scalL_nil, scalL_cons, scal_int, scal_str, scal_nils, storeB_var, splice_zero, htrunc_hset, htrunc_c, hget_at, hset_at, oVar_c, takeC, oBuild_cons, encE_cells, encE_scal, encE_mr, encE_agg, encE_take6, encE_rt, if_true, List.drop_zero, List.drop_succ_cons, List.length_cons, List.length_nil, Nat.zero_add, Bool.and_true, List.append_nil, Nat.reduceAdd, hset_length, oLoad_ptr, oStore_ptr, List.drop_nil, le_s, Nat.le_refl, Nat.zero_le, or_true, and_self, hp, i40, h40, hv, outR, errV, hval]
  | false =>
    cases h91 : Rd.headIs s 91 with
    | true =>
      have hv := hg (H := .var zE :: H) 93 (rd_o hs) (headIs_len h91) hl
      simp (maxDischargeDepth := 9) only [cast_lit, zE] at hv
      cases hval : grp 93 s with
      | err e s' =>
        simp (maxDischargeDepth := 9) only [hset_o, hp, hval, outR] at hv
        simp (maxDischargeDepth := 9) only [beff_some, bcall_ret, bcall_pan, cnd_true, cnd_false, pn_int, cells_agg, scalL_nil, scalL_cons, scal_int, scal_str, scal_nils, htrunc_hset, htrunc_c, oVar_c, oBuild_cons, if_true, if_false, Bool.and_true, Bool.false_eq_true, hset_length, oLoad_ptr, oStore_ptr, Nat.le_refl, hp, i40, h40, i91, h91, hv, outR, errV, hval, Rd.Res.bind]
      | ok a s' =>
        simp (maxDischargeDepth := 9) only [hset_o, hp, hval, outR] at hv
        simp (maxDischargeDepth := 9) only [bnd_some, beff_some, bcall_ret, cnd_true, cnd_false, loadB_var, cells_int, cells_vs, cells_agg, scalL_nil, scalL_cons, scal_int, scal_str, scal_nils, scal_vs, mr_int, mr_str, mr_nils, mr_vs, mr_agg, mrL_nil, mrL_cons, storeB_var, splice_zero, splice_succ, htrunc_hset, htrunc_c, hget_at, hset_at, oVar_c, takeC, oBuild_nil, oBuild_cons, buildB_some, rt_agg, rtF_some, depth_eq, frz_int, frz_str, frz_vs, frz_nils, frz_agg, mapO_nil, mapO_cons, oLit_encE, if_true, if_false, List.drop_zero, List.drop_succ_cons, List.length_cons, List.length_nil, Nat.zero_add, Option.bind_some, Option.map_some, Bool.and_true, Bool.false_eq_true, List.append_nil, List.nil_append, List.cons_append, Nat.reduceAdd, hset_length, oLoad_ptr, oStore_ptr, List.drop_nil, le_s, Nat.le_refl, Nat.zero_le, or_true, and_true, and_self, Nat.max_self, List.take_zero, List.take_succ_cons, hp, i40, h40, i91, h91, hv, outR, errV, hval, Rd.Res.bind, List.getElem?_cons_zero, List.getElem?_cons_succ]
        rfl
    | false =>
      cases h34 : Rd.headIs s 34 with
      | true =>
        have hv := c_reader_quoted (H := .var zE :: H) (rd_o hs) (headIs_len h34) (by omega)
        have hle := quoted_len s
        simp (maxDischargeDepth := 9) only [bnd_some, zE] at hv
        cases hval : Rd.quoted s with
        | err e s' =>
          simp (maxDischargeDepth := 9) only [hset_o, hp, hval, outR] at hv
          simp (maxDischargeDepth := 9) only [beff_some, bcall_ret, bcall_pan, cnd_true, cnd_false, pn_int, cells_agg, scalL_nil, scalL_cons, scal_int, scal_str, scal_nils, htrunc_hset, htrunc_c, oVar_c, oBuild_cons, if_true, if_false, Bool.and_true, Bool.false_eq_true, hset_length, oLoad_ptr, oStore_ptr, Nat.le_refl, hp, i40, h40, i91, h91, i34, h34, hv, outR, errV, hval, Rd.Res.bind]
        | ok a s' =>
          simp (maxDischargeDepth := 9) only [hset_o, hp, hval, outR] at hv
          have hfo : ∀ H, E n_reader_fold [.str a] H = some (.ret (encE (Rd.fold a)), H) := fun H => c_reader_fold (by have := hle a s' hval; omega)
          simp (maxDischargeDepth := 9) only [bnd_some, beff_some, bcall_ret, cnd_true, cnd_false, loadB_var, cells_agg, scalL_nil, scalL_cons, scal_int, scal_str, scal_nils, storeB_var, splice_zero, htrunc_hset, htrunc_c, hget_at, hset_at, oVar_c, takeC, oBuild_cons, encE_cells, encE_scal, encE_mr, encE_agg, encE_take6, encE_rt, if_true, if_false, List.drop_zero, List.drop_succ_cons, List.length_cons, List.length_nil, Nat.zero_add, Bool.and_true, Bool.false_eq_true, List.append_nil, Nat.reduceAdd, hset_length, oLoad_ptr, oStore_ptr, List.drop_nil, le_s, Nat.le_refl, Nat.zero_le, or_true, and_self, hp, i40, h40, i91, h91, i34, h34, hv, outR, errV, hval, Rd.Res.bind, hfo]
      | false =>
        cases h37 : Rd.headIs s 37 with
        | true =>
          have hv := c_reader_percent (H := .var zE :: H) (rd_o hs) (headIs_len h37) (by omega)
          simp (maxDischargeDepth := 9) only [bnd_some, zE] at hv
          cases hval : Rd.percent s with
          | err e s' =>
            simp (maxDischargeDepth := 9) only [hset_o, hp, hval, outR] at hv
            simp (maxDischargeDepth := 9) only [beff_some, bcall_ret, bcall_pan, cnd_true, cnd_false, pn_int, cells_agg, scalL_nil, scalL_cons, scal_int, scal_str, scal_nils, htrunc_hset, htrunc_c, oVar_c, oBuild_cons, if_true, if_false, Bool.and_true, Bool.false_eq_true, hset_length, oLoad_ptr, oStore_ptr, Nat.le_refl, hp, i40, h40, i91, h91, i34, h34, i37, h37, hv, outR, errV, hval]
          | ok a s' =>
            simp (maxDischargeDepth := 9) only [hset_o, hp, hval, outR] at hv
            simp (maxDischargeDepth := 9) only [bnd_some, beff_some, bcall_ret, cnd_true, cnd_false, loadB_var, cells_agg, scalL_nil, scalL_cons, scal_int, scal_str, scal_nils, storeB_var, splice_zero, htrunc_hset, htrunc_c, hget_at, hset_at, oVar_c, takeC, oBuild_cons, encE_cells, encE_scal, encE_mr, encE_agg, encE_take6, encE_rt, if_true, if_false, List.drop_zero, List.drop_succ_cons, List.length_cons, List.length_nil, Nat.zero_add, Bool.and_true, Bool.false_eq_true, List.append_nil, Nat.reduceAdd, hset_length, oLoad_ptr, oStore_ptr, List.drop_nil, le_s, Nat.le_refl, Nat.zero_le, or_true, and_self, hp, i40, h40, i91, h91, i34, h34, i37, h37, hv, outR, errV, hval]
        | false =>
          have hv := c_reader_name (H := .var zE :: H) (rd_o hs) (by omega)
          simp (maxDischargeDepth := 9) only [bnd_some, zE] at hv
          cases hval : Rd.name s with
          | err e s' =>
            simp (maxDischargeDepth := 9) only [hset_o, hp, hval, outR] at hv
            simp (maxDischargeDepth := 9) only [beff_some, bcall_ret, bcall_pan, cnd_false, pn_int, cells_agg, scalL_nil, scalL_cons, scal_int, scal_str, scal_nils, htrunc_hset, htrunc_c, oVar_c, oBuild_cons, if_false, Bool.and_true, Bool.false_eq_true, hset_length, oLoad_ptr, oStore_ptr, Nat.le_refl, hp, i40, h40, i91, h91, i34, h34, i37, h37, hv, outR, errV, hval, Rd.Res.bind]
          | ok a s' =>
            simp (maxDischargeDepth := 9) only [hset_o, hp, hval, outR] at hv
            simp (maxDischargeDepth := 9) only [bnd_some, beff_some, bcall_ret, cnd_false, loadB_var, cells_int, cells_str, cells_agg, scalL_nil, scalL_cons, scal_int, scal_str, scal_nils, mr_int, mr_str, mr_nils, mr_vs, mr_agg, mrL_nil, mrL_cons, storeB_var, splice_zero, splice_succ, htrunc_hset, htrunc_c, hget_at, hset_at, oVar_c, takeC, oBuild_nil, oBuild_cons, buildB_some, rt_agg, rtF_some, depth_eq, frz_int, frz_str, frz_nils, frz_agg, mapO_nil, mapO_cons, if_true, if_false, List.drop_zero, List.drop_succ_cons, List.length_cons, List.length_nil, Nat.zero_add, Option.bind_some, Option.map_some, Bool.and_true, Bool.false_eq_true, List.append_nil, List.nil_append, List.cons_append, Nat.reduceAdd, hset_length, oLoad_ptr, oStore_ptr, List.drop_nil, le_s, Nat.le_refl, Nat.zero_le, or_true, and_true, and_self, Nat.max_self, List.take_zero, List.take_succ_cons, hp, i40, h40, i91, h91, i34, h34, i37, h37, hv, outR, errV, hval, Rd.Res.bind, List.getElem?_cons_zero, List.getElem?_cons_succ]
            rfl
end Go.Proofs.Ytjnnegacjmcdbaa
end

section
/- What the program's reader does, function by function: rows and ways. -/
namespace Go.Proofs.Ytjnnegacjmcdbaa
open Go Go.Ev
set_option linter.unusedVariables false
set_option linter.unusedSimpArgs false

theorem numberL_lim (b m : Nat) : ∀ (s : List UInt8) (n : Nat) (ok : Bool) (r : Nat × Bool) (s' : List UInt8), n ≤ m → Rd.numberL b m n ok s = .ok r s' → r.1 ≤ m
  | [], n, ok, r, s', hn, h => by simp only [Rd.numberL] at h; injection h with h1 h2; subst h1; exact hn
  | c :: t, n, ok, r, s', hn, h => by
    simp only [Rd.numberL] at h
    split at h
    · split at h
      · rename_i hm; exact numberL_lim b m t _ _ r s' hm h
      · cases h
    · injection h with h1 h2; subst h1; exact hn
theorem number_lim {b m : Nat} {s : List UInt8} {r : Nat × Bool} {s' : List UInt8} (h : Rd.number b m s = .ok r s') : r.1 ≤ m := numberL_lim b m s 0 false r s' (Nat.zero_le _) h

theorem c_reader_repeated_2 {n : Nat} {H : Heap} {p : Nat} {s : List UInt8} {e : Rd.Expr} {lo : Nat} {hi : Int} (hn : H.length = n) :
    reader_reader_repeated_j2 n (.ptr n 0 0) (.int .i64 lo) (.int .i64 hi) (.ptr (n + 1) 0 0) (.var (encE e).cells :: .var zE :: H) =
      if hi < 0 ∨ (lo : Int) ≤ hi then some (.ret (encE (.mk 3 [] [] lo hi [e])), H) else some (.pan (errV 20), H) := by
  subst hn
  rw [reader_reader_repeated_j2_eq]
  by_cases h1 : hi < 0
  · rw [if_pos (.inl h1)]
    simp (maxDischargeDepth := 9) only [bnd_some, beff_some, bcall_ret, gua_tf, oMove_v, oPick_t, oBin_lss, htrunc_self, loadB_var, cells_int, cells_vs, cells_agg, scalL_nil, scalL_cons, scal_int, scal_str, scal_nils, scal_vs, mr_int, mr_str, mr_nils, mr_vs, mr_agg, mrL_nil, mrL_cons, storeB_var, splice_zero, splice_succ, htrunc_c, hget_o, hset_o, hget_at, hset_at, takeC, oBuild_nil, oBuild_cons, buildB_some, rt_agg, rtF_some, depth_eq, frz_int, frz_str, frz_vs, frz_nils, frz_agg, mapO_nil, mapO_cons, encE_cells, encE_agg, encE_take6, oLit_encE, decide_true, if_true, List.drop_zero, List.drop_succ_cons, List.length_cons, List.length_nil, Nat.zero_add, Option.bind_some, Option.map_some, Bool.and_true, List.append_nil, List.nil_append, List.cons_append, Nat.reduceAdd, oLoad_ptr, oStore_ptr, List.drop_nil, le_s, Nat.le_refl, Nat.lt_add_one, Nat.zero_le, or_true, and_true, and_self, Nat.max_self, List.take_zero, List.take_succ_cons, zE, h1, c_reader_want, List.getElem?_cons_zero, List.getElem?_cons_succ]
    rfl
  · by_cases h2 : (lo : Int) ≤ hi
    · rw [if_pos (.inr h2)]
      simp (maxDischargeDepth := 9) only [bnd_some, beff_some, bcall_ret, gua_yes, oMove_v, oPick_f, oBin_lss, oBin_geq, htrunc_self, loadB_var, cells_int, cells_vs, cells_agg, scalL_nil, scalL_cons, scal_int, scal_str, scal_nils, scal_vs, mr_int, mr_str, mr_nils, mr_vs, mr_agg, mrL_nil, mrL_cons, storeB_var, splice_zero, splice_succ, htrunc_c, hget_o, hset_o, hget_at, hset_at, takeC, oBuild_nil, oBuild_cons, buildB_some, rt_agg, rtF_some, depth_eq, frz_int, frz_str, frz_vs, frz_nils, frz_agg, mapO_nil, mapO_cons, encE_cells, encE_agg, encE_take6, oLit_encE, decide_true, decide_false, if_true, List.drop_zero, List.drop_succ_cons, List.length_cons, List.length_nil, Nat.zero_add, Option.bind_some, Option.map_some, Bool.and_true, List.append_nil, List.nil_append, List.cons_append, Nat.reduceAdd, oLoad_ptr, oStore_ptr, List.drop_nil, le_s, Nat.le_refl, Nat.lt_add_one, Nat.zero_le, or_true, and_true, and_self, Nat.max_self, List.take_zero, List.take_succ_cons, zE, h1, h2, c_reader_want, List.getElem?_cons_zero, List.getElem?_cons_succ]
      rfl
    · rw [if_neg (by omega)]
      simp (maxDischargeDepth := 9) only [bnd_some, bcall_pan, gua_yes, oMove_v, oPick_f, oBin_lss, oBin_geq, htrunc_self, pn_int, htrunc_c, oBuild_cons, decide_false, if_false, List.length_cons, Bool.false_eq_true, oLoad_ptr, oStore_ptr, le_s, Nat.le_refl, zE, h1, h2, c_reader_want, errV]

theorem c_reader_repeated_1 {d : Int} {el : List UInt8 → Rd.Res Rd.Expr} (hel : ConE n_reader_reader_element [.int .i64 d] el) {p : Nat} {s : List UInt8} {H : Heap} (hs : RdAt H p s) (hl : s.length < 60000) {lo hi : Nat} {least most star : Bool} :
    reader_reader_repeated_j1 H.length (.ptr p 0 0) (.int .i64 d) (.ptr H.length 0 0) (.int .i64 lo) (.bool least) (.int .i64 hi) (.bool most) (.bool star) (.var zE :: H) =
      outR p H encE ((el s).bind fun e s3 => if !least && !star then .ok e s3 else if most then (if lo ≤ hi then .ok (.mk 3 [] [] lo hi [e]) s3 else .err 20 s3) else .ok (.mk 3 [] [] lo (-1) [e]) s3) := by
  have hp := hget_lt hs
  have hv := hel (H := .var zE :: H) (rd_o hs) hl
  rw [reader_reader_repeated_j1_eq]
  cases hval : el s with
  | err e s' =>
    simp (maxDischargeDepth := 9) only [hset_o, hp, hval, outR] at hv
    simp (maxDischargeDepth := 9) only [bnd_some, beff_some, bcall_pan, oMove_v, oUn_not, pn_int, cells_agg, scalL_nil, scalL_cons, scal_int, scal_str, scal_nils, storeB_var, splice_zero, htrunc_hset, htrunc_c, hget_at, hset_at, oVar_c, List.length_cons, List.length_nil, Nat.zero_add, Bool.and_true, Nat.reduceAdd, hset_length, oLoad_ptr, oStore_ptr, Nat.le_refl, and_true, and_self, hp, hv, outR, errV, Rd.Res.bind]
  | ok e s' =>
    simp (maxDischargeDepth := 9) only [hset_o, hp, hval, outR] at hv
    have j2 := fun hi => c_reader_repeated_2 (n := H.length) (H := rdSet H p s') (p := p) (s := s') (e := e) (lo := lo) (hi := hi) (by simp)
    simp only [zE] at j2 hv
    cases least <;> cases star
    · simp (maxDischargeDepth := 9) only [bnd_some, beff_some, bcall_ret, cnd_true, gua_yes, oMove_v, oPick_t, oUn_not, loadB_var, cells_agg, scalL_nil, scalL_cons, scal_int, scal_str, scal_nils, storeB_var, splice_zero, htrunc_hset, htrunc_c, hget_o, hset_o, hget_at, hset_at, oVar_c, takeC, encE_cells, encE_scal, encE_mr, encE_agg, encE_take6, encE_rt, Bool.not_false, if_true, List.drop_zero, List.drop_succ_cons, List.length_cons, List.length_nil, Nat.zero_add, Bool.and_true, List.append_nil, Nat.reduceAdd, hset_length, oLoad_ptr, oStore_ptr, List.drop_nil, le_s, Nat.le_refl, Nat.lt_add_one, Nat.zero_le, or_true, and_true, and_self, hp, zE, hv, outR, Rd.Res.bind]
    all_goals
      cases most
      · have j := j2 (-1)
        rw [if_pos (.inl (by omega))] at j
        simp (maxDischargeDepth := 9) only [bnd_some, beff_some, bcall_ret, cnd_true, cnd_false, gua_yes, gua_ft, oMove_v, oPick_t, oPick_f, oUn_not, cells_agg, scalL_nil, scalL_cons, scal_int, scal_str, scal_nils, storeB_var, splice_zero, hget_at, hset_at, oVar_c, encE_cells, encE_scal, encE_mr, Bool.not_true, Bool.not_false, if_true, if_false, List.drop_succ_cons, List.length_cons, List.length_nil, Nat.zero_add, Bool.and_true, Bool.and_false, Bool.false_eq_true, List.append_nil, Nat.reduceAdd, hset_length, oLoad_ptr, oStore_ptr, List.drop_nil, le_s, Nat.le_refl, Nat.zero_le, or_true, and_true, and_self, hp, zE, hv, outR, Rd.Res.bind, j]
      · have j := j2 hi
        by_cases h : lo ≤ hi
        · rw [if_pos (.inr (by omega))] at j
          simp (maxDischargeDepth := 9) only [bnd_some, beff_some, bcall_ret, cnd_false, gua_yes, gua_ft, oMove_v, oPick_t, oPick_f, oUn_not, cells_agg, scalL_nil, scalL_cons, scal_int, scal_str, scal_nils, storeB_var, splice_zero, hget_at, hset_at, oVar_c, encE_cells, encE_scal, encE_mr, Bool.not_true, Bool.not_false, if_true, if_false, List.drop_succ_cons, List.length_cons, List.length_nil, Nat.zero_add, Bool.and_true, Bool.and_false, Bool.false_eq_true, List.append_nil, Nat.reduceAdd, hset_length, oLoad_ptr, oStore_ptr, List.drop_nil, le_s, Nat.le_refl, Nat.zero_le, or_true, and_true, and_self, hp, zE, hv, outR, Rd.Res.bind, j, h]
        · rw [if_neg (by omega)] at j
          simp (maxDischargeDepth := 9) only [bnd_some, beff_some, bcall_ret, cnd_false, gua_yes, gua_ft, oMove_v, oPick_t, oPick_f, oUn_not, cells_agg, scalL_nil, scalL_cons, scal_int, scal_str, scal_nils, storeB_var, splice_zero, hget_at, hset_at, oVar_c, encE_cells, encE_scal, encE_mr, Bool.not_true, Bool.not_false, if_true, if_false, List.drop_succ_cons, List.length_cons, List.length_nil, Nat.zero_add, Bool.and_true, Bool.and_false, Bool.false_eq_true, List.append_nil, Nat.reduceAdd, hset_length, oLoad_ptr, oStore_ptr, List.drop_nil, le_s, Nat.le_refl, Nat.zero_le, or_true, and_true, and_self, hp, zE, hv, outR, Rd.Res.bind, j, h]

theorem c_reader_repeated {d : Int} {el : List UInt8 → Rd.Res Rd.Expr} (hel : ConE n_reader_reader_element [.int .i64 d] el) : ConE n_reader_reader_repeated [.int .i64 d] (Rd.repeated el) := by
  intro p s H hs hl
  have hp := hget_lt hs
  have hv := c_reader_number (H := .var zE :: H) (b := 10) (most := 200) (by omega) (by omega) (rd_o hs)
  rw [reader_reader_repeated_E, reader_reader_repeated_eq]
  unfold Rd.repeated
  have hle := Rd.number_le 10 200 s
  cases hval : Rd.number 10 200 s with
  | err e s' =>
    simp (maxDischargeDepth := 9) only [cast_lit, hset_o, hp, hval, outR, zE] at hv
    simp (maxDischargeDepth := 9) only [beff_some, bcall_pan, pn_int, cells_agg, scalL_nil, scalL_cons, scal_int, scal_str, scal_nils, htrunc_hset, htrunc_c, oVar_c, Bool.and_true, hset_length, Nat.le_refl, hp, hv, outR, errV, Rd.Res.bind]
  | ok l s1 =>
    have hs1 := Rd.Res.le_ok hle hval
    have ht := c_reader_take (H := .var zE :: rdSet H p s1) (p := p) (s := s1) (rd_o (rd_s hp)) 42
    simp (maxDischargeDepth := 9) only [cast_lit, hset_o, hp, hval, outR, zE] at hv
    cases h42 : Rd.headIs s1 42 with
    | false =>
      have j := c_reader_repeated_1 hel (H := rdSet H p s1) (p := p) (s := s1) (rd_s hp) (by omega) (lo := l.1) (hi := l.1) (least := l.2) (most := l.2) (star := false)
      rw [outR_rdSet] at j
      simp (maxDischargeDepth := 9) only [cast_lit, hset_o, hset_s, Bool.not_false, if_true, if_false, Bool.and_true, Bool.false_eq_true, hset_length, Nat.le_refl, hp, h42, zE] at ht j
      simp (maxDischargeDepth := 9) only [bnd_some, beff_some, bcall_ret, cnd_false, oExtract_0, oExtract_1, cells_agg, scalL_nil, scalL_cons, scal_int, scal_str, scal_nils, oVar_c, Bool.not_false, if_true, if_false, Bool.and_true, Bool.false_eq_true, Nat.le_refl, hp, hv, ht, h42, Rd.Res.bind_ok, j]
    | true =>
      have hv2 := c_reader_number (H := .var zE :: rdSet H p (s1.drop 1)) (p := p) (s := s1.drop 1) (b := 10) (most := 200) (by omega) (by omega) (rd_o (rd_s hp))
      simp (maxDischargeDepth := 9) only [cast_lit, hset_o, hset_s, if_true, hset_length, hp, h42, zE] at ht hv2
      have hle2 := Rd.number_le 10 200 (s1.drop 1)
      cases hval2 : Rd.number 10 200 (s1.drop 1) with
      | err e s' =>
        simp (maxDischargeDepth := 9) only [hset_o, hset_s, hset_length, hp, hval2, outR, zE] at hv2
        simp (maxDischargeDepth := 9) only [bnd_some, beff_some, bcall_ret, bcall_pan, cnd_true, oExtract_0, oExtract_1, pn_int, cells_agg, scalL_nil, scalL_cons, scal_int, scal_str, scal_nils, htrunc_hset, htrunc_c, oVar_c, Bool.not_true, if_true, if_false, Bool.and_true, Bool.and_false, Bool.false_eq_true, hset_length, Nat.le_refl, hp, hv, ht, h42, Rd.Res.bind, hv2, outR, errV, hval2]
      | ok h s2 =>
        have hs2 := Rd.Res.le_ok hle2 hval2
        have j := c_reader_repeated_1 hel (H := rdSet H p s2) (p := p) (s := s2) (rd_s hp) (by simp at hs2; omega) (lo := l.1) (hi := h.1) (least := l.2) (most := h.2) (star := true)
        rw [outR_rdSet] at j
        simp (maxDischargeDepth := 9) only [hset_o, hset_s, hset_length, hp, hval2, outR, zE] at hv2
        simp (maxDischargeDepth := 9) only [Bool.not_true, if_false, Bool.and_false, Bool.false_eq_true, hset_length, hp, zE] at j
        simp (maxDischargeDepth := 9) only [bnd_some, beff_some, bcall_ret, cnd_true, oExtract_0, oExtract_1, cells_agg, scalL_nil, scalL_cons, scal_int, scal_str, scal_nils, oVar_c, Bool.not_true, if_true, if_false, Bool.and_true, Bool.and_false, Bool.false_eq_true, hp, hv, ht, h42, Rd.Res.bind_ok, hv2, hval2, j]

theorem frz_someK {H' H : Heap} {n ver : Nat} {l : List Rd.Expr} {m : Nat} (hg : hget H' (n + 1) = some (.row ver 6 true (cellsE l))) (hm : m = l.length) : frz H' n 11 (.rs (n + 1) ver 6 0 m) = some (.vs (encEs l)) :=
  frz_encEs (n := 9) hg (by omega) hm
theorem someV_len (k : Int) (i ver : Nat) (l : List Rd.Expr) : (someV k i ver l).cells.length = 6 := by
  unfold someV; split
  · simp
  · rfl
theorem someV_scal (k : Int) (i ver : Nat) (l : List Rd.Expr) : scalL (someV k i ver l).cells = true := by
  unfold someV; split
  · simp
  · rfl
theorem someV_take (k : Int) (i ver : Nat) (l : List Rd.Expr) : V.agg (List.take 6 (someV k i ver l).cells) = someV k i ver l := by
  unfold someV; split
  · simp
  · rfl
/-- A row's end: what has been read becomes one. -/
theorem some_end {n ver : Nat} {l : List Rd.Expr} {k : Int} {H : Heap} {cs : List V} (hn : H.length = n) :
    rt false n (someV k (n + 1) ver l) (.row ver 6 true (cellsE l) :: .var cs :: H) = some (.ret (encE (Rd.some_ k l)), H) := by
  subst hn
  match l with
  | [e] => simp (maxDischargeDepth := 9) only [htrunc_self, htrunc_c, encE_rt, List.length_cons, le_s, Nat.le_refl, someV, zE, Rd.some_]
  | [] =>
    have hf := fun (H' : Heap) hg => frz_someK (H' := H') (H := H) (n := H.length) (ver := ver) (l := []) (m := 0) hg rfl
    simp (maxDischargeDepth := 9) only [htrunc_self, mr_int, mr_str, mr_vs, mr_agg, mrL_nil, mrL_cons, htrunc_c, hget_at, rt_agg, rtF_some, depth_eq, frz_int, frz_str, frz_vs, frz_agg, mapO_nil, mapO_cons, if_true, List.length_cons, List.length_nil, Option.bind_some, Option.map_some, Nat.reduceAdd, le_s, Nat.le_refl, Nat.zero_le, Nat.max_self, someV, zE, Rd.some_, hf]
    rfl
  | a :: b :: l =>
    have hf := fun (H' : Heap) hg => frz_someK (H' := H') (H := H) (n := H.length) (ver := ver) (l := a :: b :: l) (m := l.length + 1 + 1) hg rfl
    simp (maxDischargeDepth := 9) only [htrunc_self, mr_int, mr_str, mr_vs, mr_agg, mrL_nil, mrL_cons, htrunc_c, hget_at, rt_agg, rtF_some, depth_eq, frz_int, frz_str, frz_vs, frz_agg, mapO_nil, mapO_cons, if_true, List.length_cons, Option.bind_some, Option.map_some, Nat.reduceAdd, le_s, Nat.le_refl, Nat.zero_le, Nat.max_self, someV, zE, Rd.some_, hf]
    rfl

theorem c_reader_row_l {d : Int} {rep : List UInt8 → Rd.Res Rd.Expr} (hrep : ConE n_reader_reader_repeated [.int .i64 d] rep) (hle : ∀ s, (rep s).le s.length) {p : Nat} : ∀ (n : Nat) (l : List Rd.Expr) (ver : Nat) {s : List UInt8} {H : Heap},
    RdAt H p s → s.length ≤ n → s.length < 60000 → l.length + n < 900000 → 0 < l.length →
    reader_reader_row_l1 H.length (.ptr p 0 0) (.int .i64 d) (.ptr H.length 0 0) (.rs (H.length + 1) ver 6 0 l.length) (.row ver 6 true (cellsE l) :: .var zE :: H) = outR p H encE (Rd.rowL rep n l s)
  | n, l, ver, s, H, hs, hn, hl, hln, h0 => by
    have hp := hget_lt hs
    have hr := c_reader_room (H := .row ver 6 true (cellsE l) :: .var zE :: H) (p := p) (s := s) (rd_o (rd_o hs)) (by omega)
    have hb := c_reader_begins (H := .row ver 6 true (cellsE l) :: .var zE :: rdSet H p (Rd.room s)) (p := p) (s := Rd.room s) (rd_o (rd_o (rd_s hp)))
    have hso := c_reader_some (H := .row ver 6 true (cellsE l) :: .var zE :: rdSet H p s) (i := H.length + 1) (ver := ver) (l := l) (k := 2) (hget_at (by simp)) rfl h0
    have hend := some_end (n := H.length) (ver := ver) (l := l) (k := 2) (H := rdSet H p s) (cs := (someV 2 (H.length + 1) ver l).cells) (by simp)
    simp (maxDischargeDepth := 9) only [hset_o, List.length_cons, lt_s, hp, zE] at hr hb hso
    simp only [rdSet] at hb hso hend
    have hstop : (decide ((Rd.room s).length < s.length) && Rd.begins (Rd.room s)) = false → Rd.rowL rep n l s = .ok (Rd.some_ 2 l) s := by
      intro h
      cases n with
      | zero => rfl
      | succ n => simp only [Rd.rowL, h]; rfl
    rw [reader_reader_row_l1_eq]
    cases h1 : decide ((Rd.room s).length < s.length) with
    | false =>
      rw [hstop (by rw [h1]; rfl)]
      simp (maxDischargeDepth := 9) only [bnd_some, beff_some, bcall_ret, cnd_true, gua_tf, oMove_v, oPick_t, oNil_ptr, oFieldPtr_ptr, oUn_not, loadB_var, takeCells_1, cells_str, scalL_nil, scalL_cons, scal_str, mr_str, storeB_var, splice_zero, hget_o, hset_o, hget_s, hget_at, hset_at, hset_s, takeC, Bool.not_false, if_true, List.drop_zero, List.drop_succ_cons, List.length_cons, List.length_nil, Nat.add_zero, Nat.zero_add, Bool.and_true, List.append_nil, Nat.reduceAdd, hset_length, oLoad_ptr, oStore_ptr, List.drop_nil, lt_s, le_s, Nat.le_refl, Nat.lt_add_one, Nat.zero_le, or_true, true_or, and_true, and_self, hp, hs, zE, hr, h1, hso, someV_len, someV_scal, someV_take, hend, outR]
    | true =>
      cases h2 : Rd.begins (Rd.room s) with
      | false =>
        rw [hstop (by rw [h1, h2]; rfl)]
        simp (maxDischargeDepth := 9) only [bnd_some, beff_some, bcall_ret, cnd_true, gua_yes, oMove_v, oPick_f, oNil_ptr, oFieldPtr_ptr, oUn_not, loadB_var, takeCells_1, cells_str, scalL_nil, scalL_cons, scal_str, mr_str, storeB_var, splice_zero, hget_o, hset_o, hget_s, hget_at, hset_at, hset_s, takeC, Bool.not_true, Bool.not_false, if_true, List.drop_zero, List.drop_succ_cons, List.length_cons, List.length_nil, Nat.add_zero, Nat.zero_add, Bool.and_true, List.append_nil, Nat.reduceAdd, hset_length, oLoad_ptr, oStore_ptr, List.drop_nil, lt_s, le_s, Nat.le_refl, Nat.lt_add_one, Nat.zero_le, or_true, true_or, and_true, and_self, hp, hs, zE, hr, h1, hb, h2, hso, someV_len, someV_scal, someV_take, hend, outR]
      | true =>
        have h3 : (Rd.room s).length < s.length := by simpa using h1
        obtain ⟨m, rfl⟩ : ∃ m, n = m + 1 := ⟨n - 1, by omega⟩
        have hv := hrep (p := p) (s := Rd.room s) (H := .row ver 6 true (cellsE l) :: .var zE :: rdSet H p (Rd.room s)) (rd_o (rd_o (rd_s hp))) (by omega)
        rw [Rd.rowL, if_pos (by rw [h1, h2]; rfl)]
        simp only [rdSet, zE] at hv
        cases hval : rep (Rd.room s) with
        | err e s' =>
          simp (maxDischargeDepth := 9) only [hset_o, hset_s, List.length_cons, hset_length, lt_s, hp, hval, outR] at hv
          simp (maxDischargeDepth := 9) only [bnd_some, bcall_ret, bcall_pan, cnd_false, gua_yes, oMove_v, oPick_f, oNil_ptr, oFieldPtr_ptr, oUn_not, loadB_var, takeCells_1, pn_int, storeB_var, splice_zero, htrunc_hset, htrunc_c, hget_o, hset_o, hget_s, hset_s, Bool.not_true, List.drop_zero, List.length_cons, List.length_nil, Nat.add_zero, Nat.zero_add, hset_length, oLoad_ptr, oStore_ptr, lt_s, le_s, Nat.le_refl, and_true, and_self, hp, hs, zE, hr, h1, hb, h2, hv, outR, errV, Rd.Res.bind_err]
        | ok e s' =>
          have hs' := Rd.Res.le_ok (hle _) hval
          have ih := c_reader_row_l hrep hle m (l ++ [e]) (ver + 1) (s := s') (H := rdSet H p s') (rd_s hp) (by omega) (by omega) (by simp; omega) (by simp)
          rw [outR_rdSet] at ih
          simp (maxDischargeDepth := 9) only [hset_o, hset_s, List.length_cons, hset_length, lt_s, hp, hval, outR] at hv
          simp (maxDischargeDepth := 9) only [List.length_cons, List.length_nil, Nat.zero_add, hset_length, hp, zE, List.length_append] at ih
          have ha : ∀ H' : Heap, hget H' (H.length + 1) = some (.row ver 6 true (cellsE l)) → oAppend H.length 6 88 true (.rs (H.length + 1) ver 6 0 l.length) (.vs [encE e]) H' = some (.rs (H.length + 1) (ver + 1) 6 0 (l.length + 1), hset H' (H.length + 1) (.row (ver + 1) 6 true (cellsE (l ++ [e])))) :=
            fun H' hg => append_encE hg rfl (by omega)
          simp (maxDischargeDepth := 9) only [bnd_some, beff_some, bcall_ret, cnd_false, gua_yes, oMove_v, oPick_f, oNil_ptr, oFieldPtr_ptr, oUn_not, loadB_var, takeCells_1, storeB_var, splice_zero, hget_o, hset_o, hget_s, hget_at, hset_at, hset_s, oLit_encE, Bool.not_true, List.drop_zero, List.length_cons, List.length_nil, Nat.add_zero, Nat.zero_add, hset_length, oLoad_ptr, oStore_ptr, lt_s, Nat.le_refl, and_true, and_self, hp, hs, zE, hr, h1, hb, h2, hv, Rd.Res.bind_ok, ha, ih]
theorem c_reader_row {d : Int} {rep : List UInt8 → Rd.Res Rd.Expr} (hrep : ConE n_reader_reader_repeated [.int .i64 d] rep) (hle : ∀ s, (rep s).le s.length) : ConE n_reader_reader_row [.int .i64 d] (Rd.row rep) := by
  intro p s H hs hl
  have hp := hget_lt hs
  have hv := hrep (H := .var zE :: H) (rd_o hs) hl
  rw [reader_reader_row_E, reader_reader_row_eq]
  unfold Rd.row
  simp only [zE] at hv
  cases hval : rep s with
  | err e s' =>
    simp (maxDischargeDepth := 9) only [hset_o, hp, hval, outR] at hv
    simp (maxDischargeDepth := 9) only [beff_some, bcall_pan, pn_int, cells_agg, scalL_nil, scalL_cons, scal_int, scal_str, scal_nils, htrunc_hset, htrunc_c, oVar_c, Bool.and_true, hset_length, Nat.le_refl, hp, hv, outR, errV, Rd.Res.bind_err]
  | ok e s' =>
    have hs' := Rd.Res.le_ok (hle _) hval
    have ih := c_reader_row_l hrep hle s'.length [e] 0 (s := s') (H := rdSet H p s') (rd_s hp) (Nat.le_refl _) (by omega) (by simp; omega) (by simp)
    rw [outR_rdSet] at ih
    simp (maxDischargeDepth := 9) only [hset_o, hp, hval, outR] at hv
    simp (maxDischargeDepth := 9) only [List.length_cons, List.length_nil, Nat.zero_add, hset_length, hp, zE] at ih
    simp (maxDischargeDepth := 9) only [beff_some, bcall_ret, cells_agg, scalL_nil, scalL_cons, scal_int, scal_str, scal_nils, oVar_c, List.length_cons, Bool.and_true, hset_length, hp, hv, Rd.Res.bind_ok, row_encE (z := [.int .i64 0, .str [], .nils, .int .i64 0, .int .i64 0, .nils]) rfl, ih]
end Go.Proofs.Ytjnnegacjmcdbaa
end

section
/- What the program's reader does, function by function: ways, rules, texts. -/
namespace Go.Proofs.Ytjnnegacjmcdbaa
open Go Go.Ev
set_option linter.unusedVariables false
set_option linter.unusedSimpArgs false

theorem c_reader_ways_l {d : Int} {row : List UInt8 → Rd.Res Rd.Expr} (hrow : ConE n_reader_reader_row [.int .i64 d] row) (hle : ∀ s, (row s).le s.length) {p : Nat} : ∀ (n : Nat) (l : List Rd.Expr) (ver : Nat) {s : List UInt8} {H : Heap},
    RdAt H p s → s.length ≤ n → s.length < 60000 → l.length + n < 900000 → 0 < l.length →
    reader_reader_ways_l1 H.length (.ptr p 0 0) (.int .i64 d) (.ptr H.length 0 0) (.rs (H.length + 1) ver 6 0 l.length) (.row ver 6 true (cellsE l) :: .var zE :: H) = outR p H encE (Rd.waysL row n l s)
  | n, l, ver, s, H, hs, hn, hl, hln, h0 => by
    have hp := hget_lt hs
    have hrl := Rd.room_le s
    have hr := c_reader_room (H := .row ver 6 true (cellsE l) :: .var zE :: H) (p := p) (s := s) (rd_o (rd_o hs)) (by omega)
    have ht := c_reader_take (H := .row ver 6 true (cellsE l) :: .var zE :: rdSet H p (Rd.room s)) (p := p) (s := Rd.room s) (rd_o (rd_o (rd_s hp))) 47
    have hso := c_reader_some (H := .row ver 6 true (cellsE l) :: .var zE :: rdSet H p s) (i := H.length + 1) (ver := ver) (l := l) (k := 1) (hget_at (by simp)) rfl h0
    have hend := some_end (n := H.length) (ver := ver) (l := l) (k := 1) (H := rdSet H p s) (cs := (someV 1 (H.length + 1) ver l).cells) (by simp)
    simp (maxDischargeDepth := 9) only [cast_lit, hset_o, hset_s, List.length_cons, hset_length, lt_s, hp, zE] at hr ht hso
    simp only [rdSet] at ht hso hend
    rw [reader_reader_ways_l1_eq]
    cases h1 : Rd.headIs (Rd.room s) 47 with
    | false =>
      have hstop : Rd.waysL row n l s = .ok (Rd.some_ 1 l) s := by
        cases n with
        | zero => rfl
        | succ n => simp only [Rd.waysL, h1]; rfl
      rw [hstop]
      simp (maxDischargeDepth := 9) only [if_false, Bool.false_eq_true, h1] at ht
      simp (maxDischargeDepth := 9) only [bnd_some, beff_some, bcall_ret, cnd_true, oNil_ptr, oFieldPtr_ptr, oUn_not, loadB_var, takeCells_1, cells_str, scalL_nil, scalL_cons, scal_str, mr_str, storeB_var, splice_zero, hget_o, hset_o, hget_s, hget_at, hset_at, hset_s, takeC, Bool.not_false, if_true, List.drop_zero, List.drop_succ_cons, List.length_cons, List.length_nil, Nat.add_zero, Nat.zero_add, Bool.and_true, List.append_nil, Nat.reduceAdd, hset_length, oLoad_ptr, oStore_ptr, List.drop_nil, lt_s, le_s, Nat.le_refl, Nat.lt_add_one, Nat.zero_le, or_true, true_or, and_true, and_self, hp, hs, zE, hr, ht, hso, someV_len, someV_scal, someV_take, hend, outR]
    | true =>
      have h3 := headIs_len h1
      obtain ⟨m, rfl⟩ : ∃ m, n = m + 1 := ⟨n - 1, by omega⟩
      simp (maxDischargeDepth := 9) only [if_true, hp, h1] at ht
      have hdl : ((Rd.room s).drop 1).length < s.length := by simp; omega
      have hrl2 := Rd.room_le ((Rd.room s).drop 1)
      have hr2 := c_reader_room (H := .row ver 6 true (cellsE l) :: .var zE :: rdSet H p ((Rd.room s).drop 1)) (p := p) (s := (Rd.room s).drop 1) (rd_o (rd_o (rd_s hp))) (by omega)
      have hv := hrow (p := p) (s := Rd.room ((Rd.room s).drop 1)) (H := .row ver 6 true (cellsE l) :: .var zE :: rdSet H p (Rd.room ((Rd.room s).drop 1))) (rd_o (rd_o (rd_s hp))) (by omega)
      simp (maxDischargeDepth := 9) only [hset_o, hset_s, List.length_cons, hset_length, lt_s, hp, zE] at hr2
      simp only [rdSet, zE] at hv hr2
      rw [Rd.waysL, if_pos h1]
      cases hval : row (Rd.room ((Rd.room s).drop 1)) with
      | err e s' =>
        simp (maxDischargeDepth := 9) only [hset_o, hset_s, List.length_cons, hset_length, lt_s, hp, hval, outR] at hv
        simp (maxDischargeDepth := 9) only [bnd_some, bcall_ret, bcall_pan, cnd_false, oNil_ptr, oFieldPtr_ptr, oUn_not, loadB_var, takeCells_1, pn_int, storeB_var, splice_zero, htrunc_hset, htrunc_c, hget_o, hset_o, hget_s, hset_s, Bool.not_true, List.drop_zero, List.length_cons, List.length_nil, Nat.add_zero, Nat.zero_add, hset_length, oLoad_ptr, oStore_ptr, lt_s, le_s, Nat.le_refl, and_true, and_self, hp, hs, zE, hr, ht, hr2, hv, outR, errV, Rd.Res.bind_err]
      | ok e s' =>
        have hs' := Rd.Res.le_ok (hle _) hval
        have ih := c_reader_ways_l hrow hle m (l ++ [e]) (ver + 1) (s := s') (H := rdSet H p s') (rd_s hp) (by omega) (by omega) (by simp; omega) (by simp)
        rw [outR_rdSet] at ih
        simp (maxDischargeDepth := 9) only [hset_o, hset_s, List.length_cons, hset_length, lt_s, hp, hval, outR] at hv
        simp (maxDischargeDepth := 9) only [List.length_cons, List.length_nil, Nat.zero_add, hset_length, hp, zE, List.length_append] at ih
        have ha : ∀ H' : Heap, hget H' (H.length + 1) = some (.row ver 6 true (cellsE l)) → oAppend H.length 6 88 true (.rs (H.length + 1) ver 6 0 l.length) (.vs [encE e]) H' = some (.rs (H.length + 1) (ver + 1) 6 0 (l.length + 1), hset H' (H.length + 1) (.row (ver + 1) 6 true (cellsE (l ++ [e])))) :=
          fun H' hg => append_encE hg rfl (by omega)
        simp (maxDischargeDepth := 9) only [bnd_some, beff_some, bcall_ret, cnd_false, oNil_ptr, oFieldPtr_ptr, oUn_not, loadB_var, takeCells_1, storeB_var, splice_zero, hget_o, hset_o, hget_s, hget_at, hset_at, hset_s, oLit_encE, Bool.not_true, List.drop_zero, List.length_cons, List.length_nil, Nat.add_zero, Nat.zero_add, hset_length, oLoad_ptr, oStore_ptr, lt_s, Nat.le_refl, and_true, and_self, hp, hs, zE, hr, ht, hr2, hv, Rd.Res.bind_ok, ha, ih]
theorem c_reader_ways_g {d : Int} {row : List UInt8 → Rd.Res Rd.Expr} (hrow : ConE n_reader_reader_row [.int .i64 d] row) (hle : ∀ s, (row s).le s.length) : ConE n_reader_reader_ways [.int .i64 d] (Rd.waysG row) := by
  intro p s H hs hl
  have hp := hget_lt hs
  have hv := hrow (H := .var zE :: H) (rd_o hs) hl
  rw [reader_reader_ways_E, reader_reader_ways_eq]
  unfold Rd.waysG
  simp only [zE] at hv
  cases hval : row s with
  | err e s' =>
    simp (maxDischargeDepth := 9) only [hset_o, hp, hval, outR] at hv
    simp (maxDischargeDepth := 9) only [beff_some, bcall_pan, pn_int, cells_agg, scalL_nil, scalL_cons, scal_int, scal_str, scal_nils, htrunc_hset, htrunc_c, oVar_c, Bool.and_true, hset_length, Nat.le_refl, hp, hv, outR, errV, Rd.Res.bind_err]
  | ok e s' =>
    have hs' := Rd.Res.le_ok (hle _) hval
    have ih := c_reader_ways_l hrow hle s'.length [e] 0 (s := s') (H := rdSet H p s') (rd_s hp) (Nat.le_refl _) (by omega) (by simp; omega) (by simp)
    rw [outR_rdSet] at ih
    simp (maxDischargeDepth := 9) only [hset_o, hp, hval, outR] at hv
    simp (maxDischargeDepth := 9) only [List.length_cons, List.length_nil, Nat.zero_add, hset_length, hp, zE] at ih
    simp (maxDischargeDepth := 9) only [beff_some, bcall_ret, cells_agg, scalL_nil, scalL_cons, scal_int, scal_str, scal_nils, oVar_c, List.length_cons, Bool.and_true, hset_length, hp, hv, Rd.Res.bind_ok, row_encE (z := [.int .i64 0, .str [], .nils, .int .i64 0, .int .i64 0, .nils]) rfl, ih]
theorem c_reader_ways : ∀ (k : Nat), k ≤ 50 → ConE n_reader_reader_ways [.int .i64 ((50 - k : Nat) : Int)] (Rd.ways k)
  | 0, _ => c_reader_ways_g (c_reader_row (c_reader_repeated (c_reader_element c_reader_group_0)) (Rd.repeated_le (Rd.element_le fun _ s => (show Rd.Res.le s.length (Rd.Res.err 2 (s.drop 1)) from trivial)))) (Rd.row_le (Rd.repeated_le (Rd.element_le fun _ s => (show Rd.Res.le s.length (Rd.Res.err 2 (s.drop 1)) from trivial))))
  | k + 1, hk => by
    have ih : ConE n_reader_reader_ways [.int .i64 ((50 - k : Nat) : Int)] (Rd.ways k) := c_reader_ways k (by omega)
    have e : 50 - k = 50 - (k + 1) + 1 := by omega
    rw [e] at ih
    exact c_reader_ways_g (c_reader_row (c_reader_repeated (c_reader_element (c_reader_group_s (by omega) ih (Rd.ways_le k)))) (Rd.repeated_le (Rd.element_le (Rd.group_le (Rd.ways_le k))))) (Rd.row_le (Rd.repeated_le (Rd.element_le (Rd.group_le (Rd.ways_le k)))))

def zL : List V := [.str [], .bool false, .int .i64 0, .str [], .nils, .int .i64 0, .int .i64 0, .nils]

theorem endN_le (s : List UInt8) (k : Nat) (h : Rd.endN s = some k) : k ≤ s.length := by
  unfold Rd.endN at h
  have hr := endRest_le s
  simp only at h
  cases he : Rd.endRest s with
  | nil => rw [he] at h; simp at h; omega
  | cons a r =>
    rw [he] at h hr
    simp only [List.length_cons] at h hr
    split at h
    · injection h with h; omega
    · split at h
      · rename_i h2
        have := headIs_len h2.2
        injection h with h; omega
      · cases h

theorem c_reader_rule {p : Nat} {s : List UInt8} {H : Heap} (hs : RdAt H p s) (hl : s.length < 60000) : E n_reader_reader_rule [.ptr p 0 0] H = outR p H encL (Rd.rule s) := by
  have hp := hget_lt hs
  have hv := c_reader_name (H := .var zL :: H) (rd_o hs) (by omega)
  rw [reader_reader_rule_E, reader_reader_rule_eq]
  unfold Rd.rule
  have hle := Rd.name_le s
  cases hval : Rd.name s with
  | err e s' =>
    simp (maxDischargeDepth := 9) only [hset_o, hp, hval, outR, zL] at hv
    simp (maxDischargeDepth := 9) only [bnd_some, beff_some, bcall_pan, oFieldPtr_ptr, pn_int, cells_agg, scalL_nil, scalL_cons, scal_bool, scal_int, scal_str, scal_nils, htrunc_hset, htrunc_c, oVar_c, Nat.add_zero, Nat.zero_add, Bool.and_true, hset_length, oLoad_ptr, oStore_ptr, Nat.le_refl, hp, hv, outR, errV, Rd.Res.bind_err]
  | ok nm s1 =>
    have hs1 := Rd.Res.le_ok hle hval
    simp (maxDischargeDepth := 9) only [hset_o, hp, hval, outR, zL] at hv
    have hr1 := Rd.room_le s1
    have T1 : ∀ nm, ∃ T, T = [V.str nm, .bool false, .int .i64 0, .str [], .nils, .int .i64 0, .int .i64 0, .nils] := fun nm => ⟨_, rfl⟩
    have hr := c_reader_room (H := .var [.str nm, .bool false, .int .i64 0, .str [], .nils, .int .i64 0, .int .i64 0, .nils] :: rdSet H p s1) (p := p) (s := s1) (rd_o (rd_s hp)) (by omega)
    have ht := c_reader_take (H := .var [.str nm, .bool false, .int .i64 0, .str [], .nils, .int .i64 0, .int .i64 0, .nils] :: rdSet H p (Rd.room s1)) (p := p) (s := Rd.room s1) (rd_o (rd_s hp)) 61
    simp (maxDischargeDepth := 9) only [cast_lit, hset_o, hset_s, hset_length, hp] at hr ht
    simp only [rdSet] at hr ht
    cases h61 : Rd.headIs (Rd.room s1) 61 with
    | false =>
      simp (maxDischargeDepth := 9) only [if_false, Bool.false_eq_true, hp, h61] at ht
      simp (maxDischargeDepth := 9) only [bnd_some, beff_some, bcall_ret, bcall_pan, oFieldPtr_ptr, pn_int, cells_str, cells_agg, scalL_nil, scalL_cons, scal_bool, scal_int, scal_str, scal_nils, mr_str, storeB_var, splice_zero, htrunc_hset, htrunc_c, hget_at, hset_at, oVar_c, if_true, if_false, List.drop_zero, List.drop_succ_cons, List.length_cons, List.length_nil, Nat.add_zero, Nat.zero_add, Bool.and_true, Bool.false_eq_true, List.nil_append, List.cons_append, Nat.reduceAdd, hset_length, oStore_ptr, le_s, Nat.le_refl, Nat.zero_le, or_true, and_self, hp, hv, hr, ht, c_reader_want, outR, errV, Rd.Res.bind_ok, h61]
    | true =>
      have g61 := headIs_len h61
      simp (maxDischargeDepth := 9) only [if_true, hp, h61] at ht
      simp only [Rd.Res.bind_ok, if_pos h61]
      generalize hs2 : (Rd.room s1).drop 1 = s2 at *
      have hl2 : s2.length < 60000 := by rw [← hs2]; simp; omega
      have ht2 := c_reader_take (H := .var [.str nm, .bool false, .int .i64 0, .str [], .nils, .int .i64 0, .int .i64 0, .nils] :: rdSet H p s2) (p := p) (s := s2) (rd_o (rd_s hp)) 47
      simp (maxDischargeDepth := 9) only [cast_lit, hset_o, hset_s, hset_length, hp] at ht2
      simp only [rdSet] at ht2
      have key : ∀ more s3, s3.length < 60000 → E n_reader_reader_take [.ptr p 0 0, .int .u8 47] (.var [.str nm, .bool false, .int .i64 0, .str [], .nils, .int .i64 0, .int .i64 0, .nils] :: hset H p (.var [.str s2])) = some (.ret (.bool more), .var [.str nm, .bool false, .int .i64 0, .str [], .nils, .int .i64 0, .int .i64 0, .nils] :: hset H p (.var [.str s3])) →
          reader_reader_rule H.length (.ptr p 0 0) H = outR p H encL ((Rd.ways 50 (Rd.room s3)).bind fun e s4 => match Rd.endN (Rd.room s4) with
            | some k => .ok ⟨nm, more, e⟩ ((Rd.room s4).drop k)
            | none => .err 20 (Rd.room s4)) := by
        intro more s3 hl3 ht3
        have hr3l := Rd.room_le s3
        have hr3 := c_reader_room (H := .var [.str nm, .bool more, .int .i64 0, .str [], .nils, .int .i64 0, .int .i64 0, .nils] :: rdSet H p s3) (p := p) (s := s3) (rd_o (rd_s hp)) (by omega)
        have hw := c_reader_ways 50 (Nat.le_refl _) (H := .var [.str nm, .bool more, .int .i64 0, .str [], .nils, .int .i64 0, .int .i64 0, .nils] :: rdSet H p (Rd.room s3)) (p := p) (s := Rd.room s3) (rd_o (rd_s hp)) (by omega)
        have hwle := Rd.ways_le 50 (Rd.room s3)
        simp (maxDischargeDepth := 9) only [cast_lit, hset_o, hset_s, hset_length, hp, Nat.sub_self] at hr3 hw
        simp only [rdSet] at hr3 hw
        rw [reader_reader_rule_eq]
        cases hval2 : Rd.ways 50 (Rd.room s3) with
        | err e s' =>
          simp (maxDischargeDepth := 9) only [hset_o, hset_s, hset_length, hp, hval2, outR] at hw
          simp (maxDischargeDepth := 9) only [bnd_some, beff_some, bcall_ret, bcall_pan, oFieldPtr_ptr, pn_int, cells_bool, cells_str, cells_agg, scalL_nil, scalL_cons, scal_bool, scal_int, scal_str, scal_nils, mr_bool, mr_str, storeB_var, splice_zero, splice_succ, htrunc_hset, htrunc_c, hget_at, hset_at, oVar_c, if_true, List.drop_zero, List.drop_succ_cons, List.length_cons, List.length_nil, Nat.add_zero, Nat.zero_add, Bool.and_true, List.nil_append, List.cons_append, Nat.reduceAdd, hset_length, oLoad_ptr, oStore_ptr, le_s, Nat.le_refl, Nat.zero_le, or_true, and_self, hp, hv, hr, ht, c_reader_want, ht3, hr3, hw, outR, errV, Rd.Res.bind_err]
        | ok e s4 =>
          have hs4 := Rd.Res.le_ok hwle hval2
          have hr4l := Rd.room_le s4
          simp (maxDischargeDepth := 9) only [hset_o, hset_s, hset_length, hp, hval2, outR] at hw
          have hr4 := c_reader_room (H := .var (.str nm :: .bool more :: (encE e).cells) :: rdSet H p s4) (p := p) (s := s4) (rd_o (rd_s hp)) (by omega)
          have he := c_reader_end (H := .var (.str nm :: .bool more :: (encE e).cells) :: rdSet H p (Rd.room s4)) (p := p) (s := Rd.room s4) (rd_o (rd_s hp)) (by omega)
          simp (maxDischargeDepth := 9) only [hset_o, hset_s, hset_length, hp] at hr4
          simp only [rdSet] at hr4 he
          simp only [Rd.Res.bind_ok]
          cases hen : Rd.endN (Rd.room s4) with
          | none =>
            have hi : endI (Rd.room s4) = -1 := by simp [endI, hen]
            rw [hi] at he
            have h1 : ¬ (0 : Int) ≤ -1 := by omega
            simp (maxDischargeDepth := 9) only [bnd_some, beff_some, bcall_ret, bcall_pan, oFieldPtr_ptr, oBin_geq, pn_int, cells_bool, cells_str, cells_agg, scalL_nil, scalL_cons, scal_bool, scal_int, scal_str, scal_nils, mr_bool, mr_str, storeB_var, splice_zero, splice_succ, htrunc_hset, htrunc_c, hget_at, hset_at, oVar_c, encE_cells, encE_scal, encE_mr, decide_false, if_true, if_false, List.drop_zero, List.drop_succ_cons, List.length_cons, List.length_nil, Nat.add_zero, Nat.zero_add, Bool.and_true, Bool.false_eq_true, List.append_nil, List.nil_append, List.cons_append, Nat.reduceAdd, hset_length, oStore_ptr, List.drop_nil, le_s, Nat.le_refl, Nat.zero_le, or_true, and_self, hp, hv, hr, ht, c_reader_want, ht3, hr3, hw, outR, errV, hr4, he, h1]
          | some k =>
            have hi : endI (Rd.room s4) = k := by simp [endI, hen]
            rw [hi] at he
            have h1 : (0 : Int) ≤ (k : Int) := by omega
            have hcut := c_reader_cut (H := .var (.str nm :: .bool more :: (encE e).cells) :: rdSet H p (Rd.room s4)) (p := p) (s := Rd.room s4) (rd_o (rd_s hp)) k (endN_le _ _ hen)
            simp (maxDischargeDepth := 9) only [hset_o, hset_s, hset_length, hp] at hcut
            simp only [rdSet] at hcut
            simp (maxDischargeDepth := 9) only [bnd_some, beff_some, bcall_ret, oFieldPtr_ptr, oBin_geq, loadB_var, cells_bool, cells_str, cells_agg, scalL_nil, scalL_cons, scal_bool, scal_int, scal_str, scal_nils, mr_bool, mr_str, mr_agg, mrL_cons, storeB_var, splice_zero, splice_succ, htrunc_hset, htrunc_c, hget_at, hset_at, oVar_c, takeC, rt_agg, rtF_some, depth_eq, frz_bool, frz_str, frz_agg, mapO_cons, encE_cells, encE_scal, encE_mr, encE_mrc, encE_take6, encE_drop6, encE_mapO, decide_true, if_true, List.drop_zero, List.drop_succ_cons, List.length_cons, List.length_nil, Nat.add_zero, Nat.zero_add, Option.bind_some, Option.map_some, Bool.and_true, List.append_nil, List.nil_append, List.cons_append, Nat.reduceAdd, hset_length, oLoad_ptr, oStore_ptr, List.drop_nil, le_s, Nat.le_refl, Nat.zero_le, or_true, and_self, Nat.max_self, List.take_succ_cons, hp, hv, hr, ht, c_reader_want, ht3, hr3, hw, outR, hr4, he, h1, hcut]
            rfl
      cases h47 : Rd.headIs s2 47 with
      | false =>
        have := key false s2 hl2 (by simp (maxDischargeDepth := 9) only [if_false, Bool.false_eq_true, hp, h47] at ht2; exact ht2)
        rw [reader_reader_rule_eq] at this
        exact this
      | true =>
        have := key true (s2.drop 1) (by simp; omega) (by simp (maxDischargeDepth := 9) only [if_true, hp, h47] at ht2; exact ht2)
        rw [reader_reader_rule_eq] at this
        exact this

theorem endN_pos (s : List UInt8) (k : Nat) (hs : s ≠ []) (h : Rd.endN s = some k) : 1 ≤ k := by
  unfold Rd.endN at h
  have hr := endRest_le s
  have h1 : 1 ≤ s.length := by cases s with | nil => exact absurd rfl hs | cons c r => simp
  simp only at h
  cases he : Rd.endRest s with
  | nil => rw [he] at h; simp at h; omega
  | cons a r =>
    rw [he] at h hr
    simp only [List.length_cons] at h hr
    split at h
    · injection h with h; omega
    · split at h
      · injection h with h; omega
      · cases h
theorem skip_lt {c : UInt8} {r : List UInt8} {n k : Nat} (hn : (c :: r).length ≤ n + 1) (hen : Rd.endN ((c :: r).dropWhile Rd.isBlank) = some k) : (((c :: r).dropWhile Rd.isBlank).drop k).length ≤ n := by
  have hdl := dropWhile_le Rd.isBlank (c :: r)
  by_cases he : (c :: r).dropWhile Rd.isBlank = []
  · rw [he]; simp
  · have := endN_pos _ k he hen
    rw [List.length_drop]; omega
theorem rule_le500 {n m : Nat} : (n + 1 ≤ m) = (n < m) := rfl
theorem c_reader_rules_l {p : Nat} : ∀ (n : Nat) (l : List Rd.Line) (ver : Nat) {s : List UInt8} {H : Heap}, RdAt H p s → s.length ≤ n → s.length < 60000 → l.length ≤ 500 → 0 < l.length →
    reader_reader_rules_l1 H.length (.ptr p 0 0) (.rs H.length ver 8 0 l.length) (.row ver 8 true (cellsF encL l) :: H) = outR p H (fun l => .vs (l.map encL)) (Rd.rulesL n l s)
  | n, l, ver, [], H, hs, hn, hl, hl5, h0 => by
    have hp := hget_lt hs
    have e : Rd.rulesL n l [] = .ok l [] := by cases n <;> rfl
    have hf := encL_ok.frz_row (H := .row ver 8 true (cellsF encL l) :: H) (base := H.length) (n := 10) (i := H.length) (ver := ver) (l := l) (m := l.length) (by simp) (Nat.le_refl _) rfl
    rw [e, reader_reader_rules_l1_eq]
    simp (maxDischargeDepth := 9) only [bnd_some, cnd_false, oNil_ptr, oFieldPtr_ptr, oBin_sneq, htrunc_self, loadB_var, takeCells_1, mr_vs, htrunc_c, hget_o, rt_rs, rtF_some, depth_eq, decide_true, Bool.not_true, if_true, List.drop_zero, Nat.add_zero, Nat.reduceAdd, oLoad_ptr, oStore_ptr, Nat.le_refl, Nat.zero_le, hp, hs, hf, outR, rdSet, hset_self hs]
  | 0, l, ver, c :: r, H, hs, hn, hl, hl5, h0 => by simp at hn
  | n + 1, l, ver, c :: r, H, hs, hn, hl, hl5, h0 => by
    have hp := hget_lt hs
    have hrun := c_reader_run (s := c :: r) (f := n_reader_isBlank) (cap := []) (H := .row ver 8 true (cellsF encL l) :: H) (fun c => c_reader_isBlank c _) (by omega)
    have hcut := c_reader_cut (H := .row ver 8 true (cellsF encL l) :: H) (p := p) (s := c :: r) (rd_o hs) ((c :: r).takeWhile Rd.isBlank).length (takeWhile_le _ _)
    rw [drop_take_while] at hcut
    have hdl := dropWhile_le Rd.isBlank (c :: r)
    have he := c_reader_end (H := .row ver 8 true (cellsF encL l) :: rdSet H p ((c :: r).dropWhile Rd.isBlank)) (p := p) (s := (c :: r).dropWhile Rd.isBlank) (rd_o (rd_s hp)) (by omega)
    simp (maxDischargeDepth := 9) only [hset_o, hp] at hcut
    simp only [rdSet] at he
    rw [reader_reader_rules_l1_eq, Rd.rulesL]
    cases hen : Rd.endN ((c :: r).dropWhile Rd.isBlank) with
    | some k =>
      have hi : endI ((c :: r).dropWhile Rd.isBlank) = k := by simp [endI, hen]
      rw [hi] at he
      have h1 : (0 : Int) ≤ (k : Int) := by omega
      have hcut2 := c_reader_cut (H := .row ver 8 true (cellsF encL l) :: rdSet H p ((c :: r).dropWhile Rd.isBlank)) (p := p) (s := (c :: r).dropWhile Rd.isBlank) (rd_o (rd_s hp)) k (endN_le _ _ hen)
      simp (maxDischargeDepth := 9) only [hset_o, hset_s, hset_length, hp] at hcut2
      simp only [rdSet] at hcut2
      have hlt := skip_lt hn hen
      have ih := c_reader_rules_l n l ver (s := ((c :: r).dropWhile Rd.isBlank).drop k) (H := rdSet H p (((c :: r).dropWhile Rd.isBlank).drop k)) (rd_s hp) hlt (by simp at hn hl hdl ⊢; omega) hl5 h0
      rw [outR_rdSet] at ih
      simp (maxDischargeDepth := 9) only [hset_length, hp] at ih
      simp only [rdSet] at ih
      simp (maxDischargeDepth := 9) only [bnd_some, beff_some, bcall_ret, cnd_true, oNil_ptr, oFieldPtr_ptr, oBin_geq, oBin_sneq, loadB_var, takeCells_1, cells_str, scalL_nil, scalL_cons, scal_str, mr_str, storeB_var, splice_zero, hget_o, hset_o, hget_s, hset_s, rt_rs, depth_eq, decide_true, decide_false, Bool.not_false, if_true, List.drop_zero, List.drop_succ_cons, List.length_cons, List.length_nil, Nat.add_zero, Nat.zero_add, reduceCtorEq, Bool.and_true, List.append_nil, Nat.reduceAdd, hset_length, oLoad_ptr, oStore_ptr, List.drop_nil, le_s, Nat.le_refl, Nat.zero_le, or_true, and_self, hp, hs, hrun, hcut, he, h1, hcut2, ih]
    | none =>
      have hi : endI ((c :: r).dropWhile Rd.isBlank) = -1 := by simp [endI, hen]
      rw [hi] at he
      have h1 : ¬ (0 : Int) ≤ -1 := by omega
      have hv := c_reader_rule (H := .row ver 8 true (cellsF encL l) :: rdSet H p (c :: r)) (p := p) (s := c :: r) (rd_o (rd_s hp)) (by omega)
      simp only [rdSet] at hv
      cases hval : Rd.rule (c :: r) with
      | err e s' =>
        simp (maxDischargeDepth := 9) only [hset_o, hset_s, hset_length, hp, hval, outR] at hv
        simp (maxDischargeDepth := 9) only [bnd_some, beff_some, bcall_ret, bcall_pan, cnd_true, cnd_false, oNil_ptr, oFieldPtr_ptr, oBin_geq, oBin_sneq, loadB_var, takeCells_1, pn_int, cells_str, scalL_nil, scalL_cons, scal_str, mr_str, storeB_var, splice_zero, htrunc_hset, htrunc_c, hget_o, hset_o, hget_s, hset_s, rt_rs, depth_eq, decide_false, Bool.not_false, if_true, List.drop_zero, List.drop_succ_cons, List.length_cons, List.length_nil, Nat.add_zero, Nat.zero_add, reduceCtorEq, Bool.and_true, List.append_nil, Nat.reduceAdd, hset_length, Nat.reduceLeDiff, oLoad_ptr, oStore_ptr, List.drop_nil, le_s, Nat.le_refl, Nat.zero_le, or_true, and_self, hp, hs, hrun, hcut, he, h1, hv, outR, errV, Rd.Res.bind_err]
      | ok x s' =>
        have hs' := Rd.Res.le_ok (Rd.rule_lt _) hval
        simp only [List.length_cons] at hs' hn hl
        simp (maxDischargeDepth := 9) only [hset_o, hset_s, hset_length, hp, hval, outR] at hv
        have ha : ∀ H' : Heap, hget H' H.length = some (.row ver 8 true (cellsF encL l)) → oAppend H.length 8 112 true (.rs H.length ver 8 0 l.length) (.vs [encL x]) H' = some (.rs H.length (ver + 1) 8 0 (l.length + 1), hset H' H.length (.row (ver + 1) 8 true (cellsF encL (l ++ [x])))) :=
          fun H' hg => encL_ok.append hg rfl (by simp [roomOk]; omega)
        by_cases h5 : l.length + 1 ≤ 500
        · have h5' : ((l.length + 1 : Nat) : Int) ≤ 500 := by omega
          have ih := c_reader_rules_l n (l ++ [x]) (ver + 1) (s := s') (H := rdSet H p s') (rd_s hp) (by omega) (by omega) (by simp; omega) (by simp)
          rw [outR_rdSet] at ih
          simp (maxDischargeDepth := 9) only [List.length_cons, List.length_nil, Nat.zero_add, hset_length, hp, List.length_append] at ih
          simp only [rdSet] at ih
          rw [Rd.Res.bind_ok, if_pos h5]
          simp (maxDischargeDepth := 9) only [bnd_some, beff_some, bcall_ret, cnd_true, cnd_false, oNil_ptr, oFieldPtr_ptr, oLenSl_rs, oBin_leq, oBin_geq, oBin_sneq, loadB_var, takeCells_1, cells_str, scalL_nil, scalL_cons, scal_str, mr_str, storeB_var, splice_zero, hget_o, hset_o, hget_s, hget_at, hset_at, hset_s, rt_rs, depth_eq, decide_true, decide_false, Bool.not_false, if_true, List.drop_zero, List.drop_succ_cons, List.length_cons, List.length_nil, Nat.add_zero, Nat.zero_add, reduceCtorEq, Bool.and_true, List.append_nil, Nat.reduceAdd, hset_length, oLoad_ptr, oStore_ptr, List.drop_nil, le_s, Nat.le_refl, Nat.zero_le, or_true, and_self, hp, hs, hrun, hcut, he, h1, hv, encL_ok.lit, ha, h5', c_reader_want, ih]
        · have h5' : ¬ ((l.length + 1 : Nat) : Int) ≤ 500 := by omega
          rw [Rd.Res.bind_ok, if_neg h5]
          simp (maxDischargeDepth := 9) only [bnd_some, beff_some, bcall_ret, bcall_pan, cnd_true, cnd_false, oNil_ptr, oFieldPtr_ptr, oLenSl_rs, oBin_leq, oBin_geq, oBin_sneq, loadB_var, takeCells_1, pn_int, cells_str, scalL_nil, scalL_cons, scal_str, mr_str, storeB_var, splice_zero, htrunc_hset, htrunc_c, hget_o, hset_o, hget_s, hget_at, hset_at, hset_s, rt_rs, depth_eq, decide_false, Bool.not_false, if_true, if_false, List.drop_zero, List.drop_succ_cons, List.length_cons, List.length_nil, Nat.add_zero, Nat.zero_add, reduceCtorEq, Bool.and_true, Bool.false_eq_true, List.append_nil, Nat.reduceAdd, hset_length, oLoad_ptr, oStore_ptr, List.drop_nil, le_s, Nat.le_refl, Nat.zero_le, or_true, and_self, hp, hs, hrun, hcut, he, h1, hv, encL_ok.lit, ha, h5', c_reader_want, outR, errV]

theorem c_reader_rules_0 {p : Nat} : ∀ (n : Nat) {s : List UInt8} {H : Heap}, RdAt H p s → s.length ≤ n → s.length < 60000 →
    reader_reader_rules_l1 H.length (.ptr p 0 0) .nils H = outR p H (fun l => .vs (l.map encL)) (Rd.rulesL n [] s)
  | n, [], H, hs, hn, hl => by
    have e : Rd.rulesL n [] [] = .ok [] [] := by cases n <;> rfl
    rw [e, reader_reader_rules_l1_eq]
    simp (maxDischargeDepth := 9) only [bnd_some, cnd_false, oNil_ptr, oFieldPtr_ptr, oBin_sneq, htrunc_self, loadB_var, takeCells_1, rt_nils, decide_true, Bool.not_true, List.drop_zero, Nat.add_zero, oLoad_ptr, oStore_ptr, hs, outR, rdSet, hset_self hs, List.map_nil]
  | 0, c :: r, H, hs, hn, hl => by simp at hn
  | n + 1, c :: r, H, hs, hn, hl => by
    have hp := hget_lt hs
    have hrun := c_reader_run (s := c :: r) (f := n_reader_isBlank) (cap := []) (H := H) (fun c => c_reader_isBlank c _) (by omega)
    have hcut := c_reader_cut hs ((c :: r).takeWhile Rd.isBlank).length (takeWhile_le _ _)
    rw [drop_take_while] at hcut
    have hdl := dropWhile_le Rd.isBlank (c :: r)
    have he := c_reader_end (H := rdSet H p ((c :: r).dropWhile Rd.isBlank)) (p := p) (s := (c :: r).dropWhile Rd.isBlank) (rd_s hp) (by omega)
    simp only [rdSet] at he
    rw [reader_reader_rules_l1_eq, Rd.rulesL]
    cases hen : Rd.endN ((c :: r).dropWhile Rd.isBlank) with
    | some k =>
      have hi : endI ((c :: r).dropWhile Rd.isBlank) = k := by simp [endI, hen]
      rw [hi] at he
      have h1 : (0 : Int) ≤ (k : Int) := by omega
      have hcut2 := c_reader_cut (H := rdSet H p ((c :: r).dropWhile Rd.isBlank)) (p := p) (s := (c :: r).dropWhile Rd.isBlank) (rd_s hp) k (endN_le _ _ hen)
      simp (maxDischargeDepth := 9) only [hset_s, hp] at hcut2
      simp only [rdSet] at hcut2
      have hlt := skip_lt hn hen
      have ih := c_reader_rules_0 n (s := ((c :: r).dropWhile Rd.isBlank).drop k) (H := rdSet H p (((c :: r).dropWhile Rd.isBlank).drop k)) (rd_s hp) hlt (by simp at hn hl hdl ⊢; omega)
      rw [outR_rdSet] at ih
      simp (maxDischargeDepth := 9) only [hset_length, hp] at ih
      simp only [rdSet] at ih
      simp (maxDischargeDepth := 9) only [bnd_some, beff_some, bcall_ret, cnd_true, oNil_ptr, oFieldPtr_ptr, oBin_geq, oBin_sneq, htrunc_self, loadB_var, takeCells_1, cells_str, scalL_nil, scalL_cons, scal_str, mr_str, storeB_var, splice_zero, hget_s, hset_s, rt_nils, decide_true, decide_false, Bool.not_false, if_true, List.drop_zero, List.drop_succ_cons, List.length_cons, List.length_nil, Nat.add_zero, Nat.zero_add, reduceCtorEq, Bool.and_true, List.append_nil, oLoad_ptr, oStore_ptr, List.drop_nil, le_s, Nat.le_refl, Nat.zero_le, or_true, and_self, hp, hs, hrun, hcut, he, h1, hcut2, ih]
    | none =>
      have hi : endI ((c :: r).dropWhile Rd.isBlank) = -1 := by simp [endI, hen]
      rw [hi] at he
      have h1 : ¬ (0 : Int) ≤ -1 := by omega
      have hv := c_reader_rule (H := rdSet H p (c :: r)) (p := p) (s := c :: r) (rd_s hp) (by omega)
      simp only [rdSet] at hv
      cases hval : Rd.rule (c :: r) with
      | err e s' =>
        simp (maxDischargeDepth := 9) only [hset_s, hp, hval, outR] at hv
        simp (maxDischargeDepth := 9) only [bnd_some, beff_some, bcall_ret, bcall_pan, cnd_true, cnd_false, oNil_ptr, oFieldPtr_ptr, oBin_geq, oBin_sneq, htrunc_self, loadB_var, takeCells_1, pn_int, cells_str, scalL_nil, scalL_cons, scal_str, mr_str, storeB_var, splice_zero, htrunc_hset, hget_s, hset_s, rt_nils, decide_false, Bool.not_false, if_true, List.drop_zero, List.drop_succ_cons, List.length_cons, List.length_nil, Nat.add_zero, Nat.zero_add, reduceCtorEq, Bool.and_true, List.append_nil, List.nil_append, Nat.reduceLeDiff, oLoad_ptr, oStore_ptr, List.drop_nil, le_s, Nat.le_refl, Nat.zero_le, or_true, and_self, hp, hs, hrun, hcut, he, h1, hv, outR, errV, Rd.Res.bind_err]
      | ok x s' =>
        have hs' := Rd.Res.le_ok (Rd.rule_lt _) hval
        simp only [List.length_cons] at hs' hn hl
        simp (maxDischargeDepth := 9) only [hset_s, hp, hval, outR] at hv
        have ha : ∀ H' : Heap, oAppend H.length 8 112 true .nils (.vs [encL x]) H' = some (.rs H'.length 0 8 0 1, .row 0 8 true (cellsF encL [x]) :: H') :=
          fun H' => encL_ok.append_nil (by decide)
        have h5' : (1 : Int) ≤ 500 := by omega
        have h5 : ([] : List Rd.Line).length + 1 ≤ 500 := by simp
        have ih := c_reader_rules_l n [x] 0 (s := s') (H := rdSet H p s') (rd_s hp) (by omega) (by omega) (by simp) (by simp)
        rw [outR_rdSet] at ih
        simp (maxDischargeDepth := 9) only [List.length_cons, List.length_nil, Nat.zero_add, hset_length, hp] at ih
        simp only [rdSet] at ih
        rw [Rd.Res.bind_ok, if_pos h5]
        simp (maxDischargeDepth := 9) only [bnd_some, beff_some, bcall_ret, cnd_true, cnd_false, oNil_ptr, oFieldPtr_ptr, oLenSl_rs, oBin_leq, oBin_geq, oBin_sneq, htrunc_self, loadB_var, takeCells_1, cells_str, scalL_nil, scalL_cons, scal_str, mr_str, storeB_var, splice_zero, cast_lit, hget_s, hset_s, rt_nils, decide_true, decide_false, Bool.not_false, if_true, List.drop_zero, List.drop_succ_cons, List.length_cons, List.length_nil, Nat.add_zero, Nat.zero_add, reduceCtorEq, Bool.and_true, List.append_nil, List.nil_append, hset_length, oLoad_ptr, oStore_ptr, List.drop_nil, le_s, Nat.le_refl, Nat.zero_le, or_true, and_self, hp, hs, hrun, hcut, he, h1, hv, encL_ok.lit, ha, h5', c_reader_want, ih]
theorem c_reader_rules {p : Nat} {s : List UInt8} {H : Heap} (hs : RdAt H p s) (hl : s.length < 60000) : E n_reader_reader_rules [.ptr p 0 0] H = outR p H (fun l => .vs (l.map encL)) (Rd.rulesL s.length [] s) := by
  rw [reader_reader_rules_E, reader_reader_rules_eq]
  exact c_reader_rules_0 s.length hs (Nat.le_refl _) hl
end Go.Proofs.Ytjnnegacjmcdbaa
end

section
/- What the program's reader does: a text's rules. -/
namespace Go.Proofs.Ytjnnegacjmcdbaa
open Go Go.Ev
set_option linter.unusedVariables false
set_option linter.unusedSimpArgs false

theorem D_Read_n (a b : Nat) (H : Heap) : D n_reader_Read_1 [.ptr a 0 0, .ptr b 0 0] none H = some (false, H) := by
  refine reader_Read_1_dn_D _ _ _ ?_
  rw [reader_Read_1_dn_eq]
  simp (maxDischargeDepth := 9) only [bnd_some, cnd_false, oBinI_neq_nn, htrunc_self, oStore_ptr]
theorem D_Read_p (e : Int) (H : Heap) (x y z : V) :
    D n_reader_Read_1 [.ptr H.length 0 0, .ptr (H.length + 1) 0 0] (some (.iface ty_api_Errno (.int .i64 e))) (.var [z] :: .var [y] :: .var [x] :: H) = some (true, .var [z] :: .var [.int .i64 e] :: .var [.nils] :: H) := by
  refine reader_Read_1_dp_D _ _ _ _ ?_
  rw [reader_Read_1_dp_eq]
  have hl : ∀ a b c : Blk, htrunc (a :: b :: c :: H) (H.length + 1 + 1 + 1) = a :: b :: c :: H := fun a b c => htrunc_eq (by simp)
  simp (maxDischargeDepth := 9) only [bnd_some, beff_some, cnd_true, oAssert_same, oBinI_neq_nil, cells_int, cells_nils, scalL_nil, scalL_cons, scal_int, scal_nils, mr_int, mr_nils, storeB_var, splice_zero, hget_o, hset_o, hget_at, hset_at, if_true, List.drop_succ_cons, List.length_cons, List.length_nil, Nat.zero_add, Bool.and_true, List.append_nil, Nat.reduceLeDiff, oStore_ptr, List.drop_nil, lt_s, le_s, Nat.le_refl, Nat.lt_add_one, Nat.zero_le, or_true, and_self, hl]

theorem c_reader_Read (s : List UInt8) (H : Heap) : E n_reader_Read [.str s] H = some (.ret (.tup [.vs ((Rd.read s).1.map encL), .int .i64 (Rd.read s).2]), H) := by
  rw [reader_Read_E, reader_Read_eq]
  unfold Rd.read
  by_cases h1 : 50000 < s.length
  · have h1' : (50000 : Int) < (s.length : Int) := by omega
    rw [if_pos h1]
    simp (maxDischargeDepth := 9) only [bnd_some, beff_some, bdef_some, cnd_true, oMkFn_v, oFn_fn, oLenStr_str, oBin_gtr, htrunc_self, loadB_var, takeCells_1, cells_int, cells_nils, scalL_nil, scalL_cons, scal_int, scal_nils, mr_int, mr_nils, mr_vs, mr_tup, mrL_nil, mrL_cons, storeB_var, splice_zero, htrunc_c, hget_o, hset_o, hget_at, hset_at, oVar_c, oBuild_cons, rt_tup, rtF_some, depth_eq, frz_int, frz_nils, frz_tup, mapO_nil, mapO_cons, decide_true, if_true, List.drop_zero, List.drop_succ_cons, List.length_cons, List.length_nil, Nat.zero_add, Option.bind_some, Option.map_some, Bool.and_true, List.append_nil, List.nil_append, Nat.reduceAdd, oLoad_ptr, oStore_ptr, List.drop_nil, le_s, Nat.le_refl, Nat.lt_add_one, Nat.zero_le, or_true, and_self, Nat.max_self, h1', List.map_nil]
  · have h1' : ¬ (50000 : Int) < (s.length : Int) := by omega
    rw [if_neg h1]
    have hv := c_reader_rules (H := .var [.str s] :: .var [.int .i64 0] :: .var [.nils] :: H) (p := H.length + 1 + 1) (s := s) (hget_at (by simp)) (by omega)
    simp (maxDischargeDepth := 9) only [bnd_some, beff_some, bdef_some, cnd_false, oMkFn_v, oFn_fn, oLenStr_str, oBin_gtr, cells_int, cells_str, cells_nils, cells_agg, scalL_nil, scalL_cons, scal_int, scal_str, scal_nils, splice_zero, oVar_c, oBuild_nil, oBuild_cons, buildB_some, rt_tup, depth_eq, frz_tup, mapO_nil, mapO_cons, decide_false, if_true, List.drop_succ_cons, List.length_cons, List.length_nil, Nat.zero_add, Option.map_some, Bool.and_true, List.append_nil, List.nil_append, Nat.reduceAdd, oLoad_ptr, oStore_ptr, List.drop_nil, Nat.le_refl, and_self, List.getElem?_cons_zero, hv, h1']
    cases hval : Rd.rulesL s.length [] s with
    | err e s' =>
      simp (maxDischargeDepth := 9) only [bnd_some, bcall_pan, bdp_true, htrunc_self, loadB_var, takeCells_1, pn_int, mr_int, mr_vs, mr_tup, mrL_nil, mrL_cons, htrunc_c, hget_o, hget_at, hset_at, rtF_some, frz_int, frz_nils, if_true, List.drop_zero, List.length_cons, Option.bind_some, Option.map_some, lt_s, le_s, Nat.le_refl, Nat.lt_add_one, Nat.zero_le, Nat.max_self, outR, errV, D_Read_p, List.map_nil]
    | ok l s' =>
      simp (maxDischargeDepth := 9) only [bnd_some, beff_some, bcall_ret, bdn_some, htrunc_self, loadB_var, takeCells_1, cells_int, cells_vs, scalL_nil, scalL_cons, scal_int, scal_vs, mr_int, mr_vs, mr_tup, mrL_nil, mrL_cons, storeB_var, splice_zero, htrunc_c, hget_o, hset_o, hget_at, hset_at, rtF_some, frz_int, frz_vs, if_true, List.drop_zero, List.drop_succ_cons, List.length_cons, List.length_nil, Nat.zero_add, Option.bind_some, Option.map_some, Bool.and_true, List.append_nil, List.drop_nil, lt_s, le_s, Nat.le_refl, Nat.lt_add_one, Nat.zero_le, or_true, and_self, Nat.max_self, outR, D_Read_n]
end Go.Proofs.Ytjnnegacjmcdbaa
end

