/- Tc: a part of the proof that each law of this seat answers true at every input. No condition. -/
import Derived.Test.YtjnkigaiogjfcaaDoorSb
import Derived.Test.YtjnkigaiogjfcaaDoorTb
import Derived.Test.YtjnkigaiogjfcaaDoorXa
set_option linter.unusedVariables false
set_option linter.unusedSimpArgs false
set_option maxRecDepth 20000
section
/- One more ahead; each text once; one more at its place. -/
namespace Go.Proofs.YtjnkigaiogjfcaaDoor
open Go Go.Ev Go.X7 Go.Srt
set_option linter.unusedVariables false
set_option linter.unusedSimpArgs false
set_option maxRecDepth 20000

abbrev FD : V := .fn n_regex_Either_2 []
theorem p7_Insert {H : Heap} {i ver : Nat} {rest : List V} {l : List X} (x : X) (hg : hget H i = some (rowB ver l rest)) (hr : 6 ≤ rest.length) (hl : l.length ≤ 1000000000) :
  E n_slices_Insert_api_Re_api_Re [.rs i ver 6 0 l.length, .int .i64 0, .vs [encX x]] H = some (.ret (.rs i ver 6 0 (x :: l).length), hset H i (rowB ver (x :: l) (rest.drop 6))) := by
 rw [show E = EV Tryd.prog hint D from rfl, EV_intr (g := iInsert) rfl]
 obtain ⟨cs, hcs⟩ : ∃ cs, encX x = .agg cs := by cases x; exact ⟨_, rfl⟩
 have h6 : cs.length = 6 := by have := Qbg x; rw [hcs] at this; exact this
 have hsc : scalL cs = true := by have := Qbm x; rw [hcs] at this; exact this
 have hle : (l.length + 1) * 6 ≤ (cellsX l ++ rest).length := by rw [List.length_append, cellsX_len]; omega
 have hl2 : l.length ≤ 1000000000000000000 := by omega
 have h1 : (cellsX l ++ rest).take (l.length * 6) = cellsX l := by
  rw [List.take_append_of_le_length (by rw [cellsX_len]; exact Nat.le_refl _), List.take_of_length_le (by rw [cellsX_len]; exact Nat.le_refl _)]
 have h2 : (cellsX l ++ rest).drop ((l.length + 1) * 6) = rest.drop 6 := by
  have h0 : (cellsX l ++ rest).drop (l.length * 6) = rest := by
   rw [List.drop_append_of_le_length (by rw [cellsX_len]; exact Nat.le_refl _), List.drop_of_length_le (by rw [cellsX_len]; exact Nat.le_refl _), List.nil_append]
  rw [show (l.length + 1) * 6 = l.length * 6 + 6 by omega, ← List.drop_drop, h0]
 have e : cellsX (x :: l) = cs ++ cellsX l := by
  show (encX x).cells ++ cellsX l = _
  rw [hcs]; rfl
 have h3 : scalL (cellsX l) = true := encX_ok.cellsF_scal l
 unfold iInsert
 rw [hcs]
 simp only [hg, rowB, h6, hsc, hle, hl2, h3, and_self, if_true, h1, h2, e, List.length_cons]
theorem cmp_2 {H : Heap} {i ver k : Nat} {rest : List V} (hi : i < H.length) {l : List X} (hl : l.length ≤ 1000000000) : ∀ (Q Y W : List X) (p : X), Y.getLast? = some p → k + Y.length + Q.length ≥ 0 → (∀ z ∈ p :: Q, Wf z) → dd l = W ++ ddGo p Q → (W ++ Y ++ Q).length = l.length → k ≤ W.length →
  ∃ rest', slices_CompactFunc_api_Re_api_Re_l2 H.length (.rs i ver 6 0 l.length) FD (.int .i64 (W.length : Int)) (.rs i ver 6 k (l.length - k)) (.int .i64 ((W.length + Y.length - k : Nat) : Int)) (RH H i ver rest (W ++ Y ++ Q)) =
   some (.ret (.rs i ver 6 0 (dd l).length), RH H i ver rest' (dd l)) := by
 intro Q
 induction Q with
 | nil =>
  intro Y W p hY _ hw hd hlen hk
  simp only [ddGo, List.append_nil] at hd hlen
  have hWl : W.length + Y.length = l.length := by rw [← hlen]; simp
  have h' : ¬ ((W.length + Y.length - k : Nat) : Int) < ((l.length - k : Nat) : Int) := by omega
  obtain ⟨rest', e1, e2⟩ := splice_tail (M := W ++ Y) (rest := rest) (a := W.length) (by simp)
  have ht : (W ++ Y).take W.length = W := by simp
  rw [ht] at e1
  refine ⟨rest', ?_⟩
  have hg : hget (RH H i ver rest (W ++ Y)) i = some (rowB ver (W ++ Y) rest) := Qcl hi
  have hcl := clear_rs (base := H.length) (off := W.length) (n := l.length - W.length) hg (by rw [List.length_append, cellsX_len]; simp; omega)
  rw [hlen] at e1
  rw [e1] at hcl
  have hmr : i + 1 ≤ H.length := hi
  have hrt : rt false H.length (.rs i ver 6 0 W.length) (hset (RH H i ver rest (W ++ Y)) i (rowB ver W rest')) = some (.ret (.rs i ver 6 0 W.length), RH H i ver rest' W) := by
   rw [Qgh, Qbe, frz]
   simp only [hi, if_true, Qga, V.maxRef, hmr, Qcp]
   rw [htrunc_eq (by simp)]
  rw [hd, slices_CompactFunc_api_Re_api_Re_l2_eq]
  simp only [List.append_nil]
  simp (maxDischargeDepth := 9) only [Qah, Qag, Qbc, Qep, Qfb, Qdx, Qel, Qef, decide_false, List.append_nil, h', slice_lo (show W.length ≤ l.length by omega), slice_hi (show W.length ≤ l.length by omega), hcl, hrt]
 | cons y Q ih =>
  intro Y W p hY _ hw hd hlen hk
  have hYne : Y ≠ [] := by rintro rfl; simp at hY
  have hYl := List.length_pos_iff.2 hYne
  obtain ⟨Y0, rfl⟩ : ∃ Y0, Y = Y0 ++ [p] := by
   obtain ⟨ys, hys⟩ := List.getLast?_eq_some_iff.1 hY
   exact ⟨ys, hys⟩
  have hYl2 : (Y0 ++ [p]).length = Y0.length + 1 := by simp
  have hNs : W.length + (Y0.length + 1) + (Q.length + 1) = l.length := by rw [← hlen]; simp; omega
  have hp : Wf p := hw p (by simp)
  have hy : Wf y := hw y (by simp)
  have h' : ((W.length + (Y0 ++ [p]).length - k : Nat) : Int) < ((l.length - k : Nat) : Int) := by rw [hYl2]; omega
  have ix : oIndexPtr 6 (.rs i ver 6 k (l.length - k)) (.int .i64 ((W.length + (Y0 ++ [p]).length - k : Nat) : Int)) = some (.ptr i ver ((W.length + Y0.length + 1) * 6)) := by
   rw [oIndexPtr_rs (by rw [hYl2]; omega)]
   congr 3; rw [hYl2]; omega
  have wm : IntKind.i64.wrap (((W.length + (Y0 ++ [p]).length - k : Nat) : Int) - 1) = ((W.length + Y0.length - k : Nat) : Int) := w_nat (by rw [hYl2]; omega) (by omega)
  have ix2 : oIndexPtr 6 (.rs i ver 6 k (l.length - k)) (.int .i64 ((W.length + Y0.length - k : Nat) : Int)) = some (.ptr i ver ((W.length + Y0.length) * 6)) := by
   rw [oIndexPtr_rs (by omega)]
   congr 3; omega
  have e1 : W ++ (Y0 ++ [p]) ++ y :: Q = (W ++ Y0 ++ [p]) ++ y :: Q := by simp
  have e2 : W ++ (Y0 ++ [p]) ++ y :: Q = (W ++ Y0) ++ p :: (y :: Q) := by simp
  have l1 := ld_k (ver := ver) (rest := rest) hi e1 (j := W.length + Y0.length + 1) (by simp [Nat.add_assoc])
  have l2 := ld_k (ver := ver) (rest := rest) hi e2 (j := W.length + Y0.length) (by simp)
  have cm := fun G => (show E n_regex_Either_2 ([encX y, encX p] ++ []) G = _ from p7_eq hy hp G)
  have wj : IntKind.i64.wrap (((W.length + (Y0 ++ [p]).length - k : Nat) : Int) + 1) = ((W.length + (Y0 ++ [p]).length - k + 1 : Nat) : Int) := w_nat (by omega) (by rw [hYl2]; omega)
  have j3 : ∀ t G, slices_CompactFunc_api_Re_api_Re_j3 H.length (.rs i ver 6 0 l.length) FD t (.rs i ver 6 k (l.length - k)) (.int .i64 ((W.length + (Y0 ++ [p]).length - k : Nat) : Int)) G = slices_CompactFunc_api_Re_api_Re_l2 H.length (.rs i ver 6 0 l.length) FD t (.rs i ver 6 k (l.length - k)) (.int .i64 ((W.length + (Y0 ++ [p]).length - k + 1 : Nat) : Int)) G := fun t G => by
   rw [slices_CompactFunc_api_Re_api_Re_j3_eq]; simp (maxDischargeDepth := 9) only [Qah, Qdx, wj]
  by_cases he : txt y = txt p
  ·obtain ⟨rest', ih1⟩ := ih (Y0 ++ [p] ++ [y]) W y (by simp) (by omega) (fun z hz => hw z (by simp at hz ⊢; rcases hz with h | h <;> simp [h])) (by rw [hd, ddGo, if_pos he]) (by rw [← hlen]; simp) hk
   refine ⟨rest', ?_⟩
   have e3 : W.length + (Y0 ++ [p] ++ [y]).length - k = W.length + (Y0 ++ [p]).length - k + 1 := by simp; omega
   have e4 : W ++ (Y0 ++ [p] ++ [y]) ++ Q = W ++ (Y0 ++ [p]) ++ y :: Q := by simp
   rw [e3, e4] at ih1
   rw [slices_CompactFunc_api_Re_api_Re_l2_eq]
   simp (maxDischargeDepth := 9) only [Qah, Qab, Qbd, Qbc, Qep, Qfu, Qfb, Qdx, Qel, Qef, decide_true, Bool.not_true, h', ix, l1, wm, ix2, l2, cm, he, j3]
   exact ih1
  ·-- kept
   obtain ⟨u, U, hU⟩ : ∃ u U, Y0 ++ [p] = u :: U := by
    cases hh : Y0 ++ [p] with
    | nil => simp at hh
    | cons u U => exact ⟨u, U, rfl⟩
   have hUl : U.length = Y0.length := by have := congrArg List.length hU; simp at this; omega
   obtain ⟨rest', ih1⟩ := ih (U ++ [y]) (W ++ [y]) y (by simp) (by omega) (fun z hz => hw z (by simp at hz ⊢; rcases hz with h | h <;> simp [h])) (by rw [hd, ddGo, if_neg he]; simp) (by rw [← hlen]; simp; omega) (by simp; omega)
   refine ⟨rest', ?_⟩
   have ixk := ix_k (i := i) (ver := ver) (N := l.length) (j := W.length) (by omega)
   have e5 : W ++ (Y0 ++ [p]) ++ y :: Q = W ++ u :: (U ++ y :: Q) := by rw [hU]; simp
   have s1 := st_k (base := H.length) (ver := ver) (rest := rest) hi e5 (j := W.length) rfl y
   have wk' := w_add (a := W.length) (by omega)
   have e3 : (W ++ [y]).length + (U ++ [y]).length - k = W.length + (Y0 ++ [p]).length - k + 1 := by simp [hUl]; omega
   have e4 : (W ++ [y]) ++ (U ++ [y]) ++ Q = W ++ y :: (U ++ y :: Q) := by simp
   have e6 : (W ++ [y]).length = W.length + 1 := by simp
   rw [e3, e4, e6] at ih1
   rw [slices_CompactFunc_api_Re_api_Re_l2_eq]
   simp (maxDischargeDepth := 9) only [Qah, Qag, Qab, Qbd, Qep, Qfu, Qfb, Qdx, Qel, Qef, decide_true, decide_false, Bool.not_false, h', ix, l1, wm, ix2, l2, cm, he, j3, ixk, s1, wk']
   exact ih1
theorem cmp_1 {H : Heap} {i ver : Nat} {rest : List V} (hi : i < H.length) {l : List X} (hl : l.length ≤ 1000000000) : ∀ (Q P : List X) (p : X), (∀ z ∈ p :: Q, Wf z) → l = P ++ p :: Q → dd l = P ++ p :: ddGo p Q →
  ∃ rest', slices_CompactFunc_api_Re_api_Re_l1 H.length (.rs i ver 6 0 l.length) FD (.int .i64 ((P.length + 1 : Nat) : Int)) (RH H i ver rest l) =
   some (.ret (.rs i ver 6 0 (dd l).length), RH H i ver rest' (dd l)) := by
 intro Q
 induction Q with
 | nil =>
  intro P p hw hle hd
  have hNs : P.length + 1 = l.length := by rw [hle]; simp
  have h' : ¬ ((P.length + 1 : Nat) : Int) < (l.length : Int) := by omega
  have e : dd l = l := by rw [hd, ddGo]; exact hle.symm
  have hmr : i + 1 ≤ H.length := hi
  have hrt : rt false H.length (.rs i ver 6 0 l.length) (RH H i ver rest l) = some (.ret (.rs i ver 6 0 l.length), RH H i ver rest l) := by
   rw [Qgh, Qbe, frz]
   simp only [hi, if_true, Qga, V.maxRef, hmr]
   rw [htrunc_eq (by simp)]
  refine ⟨rest, ?_⟩
  rw [e, slices_CompactFunc_api_Re_api_Re_l1_eq]
  simp (maxDischargeDepth := 9) only [Qah, Qbc, Qep, Qfb, Qdx, Qel, Qef, decide_false, List.append_nil, h', hrt]
 | cons y Q ih =>
  intro P p hw hle hd
  have hNs : P.length + 1 + (Q.length + 1) = l.length := by rw [hle]; simp; omega
  have hp : Wf p := hw p (by simp)
  have hy : Wf y := hw y (by simp)
  have h' : ((P.length + 1 : Nat) : Int) < (l.length : Int) := by omega
  have ix := ix_k (i := i) (ver := ver) (N := l.length) (j := P.length + 1) (by omega)
  have ix2 := ix_k (i := i) (ver := ver) (N := l.length) (j := P.length) (by omega)
  have wm := w_sub (a := P.length) (by omega)
  have e1 : l = (P ++ [p]) ++ y :: Q := by rw [hle]; simp
  have l1 := ld_k (ver := ver) (rest := rest) hi e1 (j := P.length + 1) (by simp)
  have l2 := ld_k (ver := ver) (rest := rest) hi hle (j := P.length) rfl
  have cm := fun G => (show E n_regex_Either_2 ([encX y, encX p] ++ []) G = _ from p7_eq hy hp G)
  by_cases he : txt y = txt p
  ·have sl := slice_lo (i := i) (v := ver) (n := l.length) (a := P.length + 1) (by omega)
   obtain ⟨rest', q⟩ := cmp_2 (ver := ver) (k := P.length + 1) (rest := rest) hi hl Q [y] (P ++ [p]) y (by simp) (by omega) (fun z hz => hw z (by simp at hz ⊢; rcases hz with h | h <;> simp [h])) (by rw [hd, ddGo, if_pos he]; simp) (by rw [hle]; simp) (by simp)
   refine ⟨rest', ?_⟩
   have e2 : (P ++ [p]).length + [y].length - (P.length + 1) = 1 := by simp
   have e3 : (P ++ [p]).length = P.length + 1 := by simp
   have e4 : P ++ [p] ++ [y] ++ Q = l := by rw [hle]; simp
   rw [e2, e3, e4] at q
   simp only [Qam] at q
   rw [slices_CompactFunc_api_Re_api_Re_l1_eq]
   simp (maxDischargeDepth := 9) only [Qah, Qab, Qbd, Qep, Qfb, Qdx, Qel, Qef, Qgh, Qbe, decide_true, Nat.reduceAdd, h', ix, ix2, l1, wm, l2, cm, he, sl]
   exact q
  ·obtain ⟨rest', q⟩ := ih (P ++ [p]) y (fun z hz => hw z (by simp at hz ⊢; rcases hz with h | h <;> simp [h])) e1 (by rw [hd, ddGo, if_neg he]; simp)
   refine ⟨rest', ?_⟩
   have e3 : (P ++ [p]).length = P.length + 1 := by simp
   have wk' := w_add (a := P.length + 1) (by omega)
   rw [e3] at q
   rw [slices_CompactFunc_api_Re_api_Re_l1_eq]
   simp (maxDischargeDepth := 9) only [Qah, Qab, Qbd, Qbc, Qep, Qfb, Qdx, Qel, Qef, Qgh, Qbe, decide_true, decide_false, Nat.reduceAdd, h', ix, ix2, l1, wm, l2, cm, he, wk']
   exact q
theorem p7_Compact {H : Heap} {i ver : Nat} {rest : List V} {l : List X} (hg : hget H i = some (rowB ver l rest)) (hl : l.length ≤ 1000000000) (hw : ∀ z ∈ l, Wf z) :
  ∃ rest', E n_slices_CompactFunc_api_Re_api_Re [.rs i ver 6 0 l.length, FD] H = some (.ret (.rs i ver 6 0 (dd l).length), RH H i ver rest' (dd l)) := by
 have hi := hget_lt hg
 have hmr : i + 1 ≤ H.length := hi
 have hrt : ∀ n, rt false H.length (.rs i ver 6 0 n) H = some (.ret (.rs i ver 6 0 n), H) := fun n => by
  rw [Qgh, Qbe, frz]
  simp only [hi, if_true, Qga, V.maxRef, hmr, Qcx]
 have hself := hset_self hg
 rw [slices_CompactFunc_api_Re_api_Re_E, slices_CompactFunc_api_Re_api_Re_eq]
 match l, hself with
 | [], hself =>
  refine ⟨rest, ?_⟩
  have h2 : (0 : Int) < 2 := by decide
  have hH : RH H i ver rest [] = H := hself
  simp (maxDischargeDepth := 9) only [Qah, Qbd, Qfb, Qef, Qam, decide_true, List.length_nil, Qam, h2, hrt, dd]
  rw [hH]
 | [x], hself =>
  refine ⟨rest, ?_⟩
  have h2 : (1 : Int) < 2 := by decide
  have hH : RH H i ver rest [x] = H := hself
  simp (maxDischargeDepth := 9) only [Qah, Qbd, Qfb, Qef, Qam, decide_true, List.length_cons, List.length_nil, Nat.zero_add, Qam, h2, hrt, dd, ddGo]
  rw [hH]
 | x :: y :: l, hself =>
  have h2 : ¬ (((x :: y :: l).length : Nat) : Int) < 2 := by simp only [List.length_cons]; omega
  obtain ⟨rest', q⟩ := cmp_1 (ver := ver) (rest := rest) hi hl (y :: l) [] x hw rfl rfl
  refine ⟨rest', ?_⟩
  have hH : RH H i ver rest (x :: y :: l) = H := hself
  rw [hH] at q
  simp only [List.length_nil, Nat.zero_add, Qam] at q
  simp (maxDischargeDepth := 9) only [Qah, Qbc, Qfb, Qef, Qgh, Qbe, decide_false, Nat.reduceAdd, h2, q]
theorem p7_CompactN (H : Heap) : E n_slices_CompactFunc_api_Re_api_Re [.nils, FD] H = some (.ret (.vs []), H) := by
 rw [slices_CompactFunc_api_Re_api_Re_E, slices_CompactFunc_api_Re_api_Re_eq]
 have h2 : (0 : Int) < 2 := by decide
 simp (maxDischargeDepth := 9) only [Qah, Qbd, Qfa, Qef, Qcx, Qgg, decide_true, h2]
end Go.Proofs.YtjnkigaiogjfcaaDoor
end

section
/- One of some: the program's. -/
namespace Go.Proofs.YtjnkigaiogjfcaaDoor
open Go Go.Ev Go.X7 Go.Srt
set_option linter.unusedVariables false
set_option linter.unusedSimpArgs false
set_option maxRecDepth 20000

/-- The row in order, each once; what many are. -/
theorem ei_j3 {H G : Heap} {i ver : Nat} {rest : List V} {L : List X} (hU : Up H G) (hH : hget G H.length = some (.var zX)) (hg : hget G i = some (rowB ver L rest)) (hb : H.length ≤ i) (hl : L.length ≤ 1000000000) (hw : ∀ z ∈ L, Wf z) :
  ∃ M, Sd txt M ∧ St txt L M ∧ regex_Either_j3 H.length (.rs i ver 6 0 L.length) (.ptr H.length 0 0) G = some (.ret (encX (ofL (dd M) 4 0)), H) := by
 have hi := hget_lt hg
 obtain ⟨M, m1, m2, m3⟩ := p7_Sort (rest := rest) hi hl hw hg
 refine ⟨M, m1, m2, ?_⟩
 have hne : H.length ≠ i := by rintro rfl; rw [hg] at hH; cases hH
 have hML : M.length = L.length := m2.1
 obtain ⟨rest', c1⟩ := p7_Compact (H := RH G i ver rest M) (i := i) (ver := ver) (rest := rest) (l := M) (Qcl hi) (by omega) (St.wf m2 hw)
 rw [hML] at c1
 have hH2 : ∀ l r, hget (RH (RH G i ver rest M) i ver r l) H.length = some (.var zX) := fun l r => by rw [hget_other hne, hget_other hne, hH]
 have o1 := p7_of (H := RH (RH G i ver rest M) i ver rest' (dd M)) (Sl.rs i ver (dd M) rest' (Qcl (by simpa using hi))) 4 0
 have hrw : Rw (RH (RH G i ver rest M) i ver rest' (dd M)) (.rs i ver 6 0 (dd M).length) (dd M) := .rs i ver (dd M) rest' (Qcl (by simpa using hi))
 have hU2 : Up H (RH (RH G i ver rest M) i ver rest' (dd M)) := (hU.set hb _).set hb _
 obtain ⟨s1, s2, s3⟩ := ofV_six hrw.scal (dd M) 4 0
 have st := store_own (H := H) (G := RH (RH G i ver rest M) i ver rest' (dd M)) (t := H.length) (Nat.le_refl _) (cs := zX) rfl (hH2 _ _) s1 s2
 have hs : hget (hset (RH (RH G i ver rest M) i ver rest' (dd M)) H.length (.var (ofV (.rs i ver 6 0 (dd M).length) (dd M) 4 0).cells)) H.length = some (.var (ofV (.rs i ver 6 0 (dd M).length) (dd M) 4 0).cells) := Qcl (by simpa using hget_lt hH)
 have hrw2 : Rw (hset (RH (RH G i ver rest M) i ver rest' (dd M)) H.length (.var (ofV (.rs i ver 6 0 (dd M).length) (dd M) 4 0).cells)) (.rs i ver 6 0 (dd M).length) (dd M) := .rs i ver (dd M) rest' (by rw [hget_other hne.symm]; exact Qcl (by simpa using hi))
 have rr := ofV_ret hrw2 (H := H) (fun i' ver' n e => by cases e; exact hb) (hU2.set (Nat.le_refl _) _) 4 0
 rw [regex_Either_j3_eq]
 simp (maxDischargeDepth := 9) only [Qah, Qag, Qab, Qcz, List.drop_zero, oLoad_ptr, m3, c1, o1, st, hs, s3]
 exact rr
theorem ei_j3n {H G : Heap} (hU : Up H G) (hH : hget G H.length = some (.var zX)) : regex_Either_j3 H.length .nils (.ptr H.length 0 0) G = some (.ret (encX (ofL [] 4 0)), H) := by
 have m3 := p7_SortN G
 have c1 := p7_CompactN G
 have o1 := p7_of (H := G) (Sl.vs []) 4 0
 have e : ofV (.vs (encXs [])) [] 4 0 = encX (.mk 0 S4.zero []) := rfl
 rw [e] at o1
 have st := store_own (H := H) (G := G) (t := H.length) (Nat.le_refl _) (cs := zX) rfl hH (x := encX (.mk 0 S4.zero [])) (by simp) (by simp)
 have hs : hget (hset G H.length (.var (encX (.mk 0 S4.zero [])).cells)) H.length = some (.var (encX (.mk 0 S4.zero [])).cells) := Qcl (hget_lt hH)
 have hT := (hU.set (i := H.length) (Nat.le_refl _) (.var (encX (.mk 0 S4.zero [])).cells)).trunc
 simp only [encXs] at o1
 rw [regex_Either_j3_eq]
 simp (maxDischargeDepth := 9) only [Qah, Qag, Qab, Qcz, Qhi, Qbg, Qbf, Qbo, Qbl, List.drop_zero, oLoad_ptr, Nat.le_refl, m3, c1, o1, st, hs, takeX, hT, ofL]
theorem ei_l1 {H : Heap} {v : V} {l : List X} (hl : l.length ≤ 1000000000) (hok : ∀ x ∈ l, x.ok) {c : Nat} (hc : H.length ≤ c) : ∀ (m i : Nat) (s : S4) (G : Heap), l.length - i = m → i ≤ l.length → s.ok → Rw G v l → hget G c = some (.var s.cs) → Up H G →
  ∃ G', regex_Either_l1 H.length v (.ptr H.length 0 0) (.ptr c 0 0) v (.int .i64 (l.length : Int)) (.int .i64 (i : Int)) G = regex_Either_l1 H.length v (.ptr H.length 0 0) (.ptr c 0 0) v (.int .i64 (l.length : Int)) (.int .i64 (l.length : Int)) G' ∧
   hget G' c = some (.var (joinF s (l.drop i)).cs) ∧ Up H G' ∧ G.length ≤ G'.length ∧ ∀ j, j < G.length → j ≠ c → hget G' j = hget G j := by
 intro m
 induction m with
 | zero =>
  intro i s G hm hi hs hr hg hU
  obtain rfl : i = l.length := by omega
  exact ⟨G, rfl, by rw [List.drop_of_length_le (Nat.le_refl _)]; exact hg, hU, Nat.le_refl _, fun _ _ _ => rfl⟩
 | succ m ih =>
  intro i s G hm hi hs hr hg hU
  have h : i < l.length := by omega
  have h' : (i : Int) < (l.length : Int) := by omega
  have w1 := w_add (a := i) (by omega)
  have hcl := hget_lt hg
  obtain ⟨p, p0, p5, q1, q2, -⟩ := hr.sl.at h
  have hx := hok l[i] (List.getElem_mem h)
  obtain ⟨kk, sx, ks, e⟩ : ∃ k s ks, l[i] = .mk k s ks := by cases l[i] with | mk k s ks => exact ⟨k, s, ks, rfl⟩
  have hd : l.drop i = l[i] :: l.drop (i + 1) := List.drop_eq_getElem_cons h
  have up1 : ∀ G2, Rw G v l → (∀ j, j < G.length → j ≠ c → hget G2 j = hget G j) → Rw G2 v l := fun G2 hr hj => by
   cases hr with
   | nils => exact .nils
   | rs j ver l rest hg2 =>
    have : j ≠ c := by rintro rfl; rw [hg] at hg2; cases hg2
    exact .rs j ver l rest (by rw [hj j (hget_lt hg2) this]; exact hg2)
  have j2 : ∀ G2, regex_Either_j2 H.length v (.ptr H.length 0 0) (.ptr c 0 0) v (.int .i64 (l.length : Int)) (.int .i64 (i : Int)) G2 = regex_Either_l1 H.length v (.ptr H.length 0 0) (.ptr c 0 0) v (.int .i64 (l.length : Int)) (.int .i64 ((i + 1 : Nat) : Int)) G2 := fun G2 => by
   rw [regex_Either_j2_eq]; simp (maxDischargeDepth := 9) only [Qah, Qdx, w1]
  rw [hd]
  by_cases hk : l[i].k = 2
  ·have hjf : joinF s (l[i] :: l.drop (i + 1)) = joinF (s.join l[i].s) (l.drop (i + 1)) := by
    unfold joinF; rw [List.foldl_cons, if_pos hk]
   rw [hjf]
   have hjs : ∀ j, j < G.length → j ≠ c → hget (hset (.var (encX l[i]).cells :: G) c (.var (s.join l[i].s).cs)) j = hget G j := fun j hj hjc => by rw [hget_other hjc, Qck hj]
   obtain ⟨G', g1, g2, g3, g4, g5⟩ := ih (i + 1) (s.join l[i].s) (hset (.var (encX l[i]).cells :: G) c (.var (s.join l[i].s).cs)) (by omega) (by omega) (S4.join_ok hs (X.ok_set hx)) (up1 _ hr hjs) (Qcl (by simp; omega)) ((hU.cons _).set hc _)
   simp only [hset_length, List.length_cons] at g4 g5
   refine ⟨G', ?_, g2, g3, by omega, fun j hj hjc => by rw [g5 j (by omega) hjc, hjs j hj hjc]⟩
   have bj := fun H => b_Join hs (X.ok_set hx) H
   rw [regex_Either_l1_eq, ← g1]
   rw [e] at hk bj q2 ⊢
   simp only [X.k] at hk
   subst hk
   simp only [X.s] at bj ⊢
   rw [encX_mk] at q2 ⊢
   simp only [Qan]
   have hfit : fits H.length c 0 = true := by simp [fits]
   have hsp : splice s.cs 0 (s.join sx).cs = (s.join sx).cs := rfl
   simp (maxDischargeDepth := 9) only [Qah, Qag, Qab, Qbd, Qet, Qeb, Qef, Qcz, Qhj, Qan, Qgo, Qgn, Qgs, Qgy, Qhc, Qdi, Qdt, Qde, Qdd, Qdc, Qhh, Qhf, Qck, Qco, Qcj, Qcn, Qfv, Qhi, decide_true, if_true, List.drop_zero, List.drop_succ_cons, List.length_cons, List.length_nil, Nat.add_zero, Nat.zero_add, Bool.and_true, List.append_nil, Nat.reduceAdd, oLoad_ptr, oStore_ptr, List.drop_nil, le_s, Nat.le_refl, Nat.zero_le, or_true, and_self, Nat.max_self, List.take_zero, List.take_succ_cons, h', q1, q2, hg, hcl, bj, hfit, hsp, j2]
  ·have hjf : joinF s (l[i] :: l.drop (i + 1)) = joinF s (l.drop (i + 1)) := by
    unfold joinF; rw [List.foldl_cons, if_neg hk]
   rw [hjf]
   have hjs : ∀ j, j < G.length → j ≠ c → hget (.var (encX l[i]).cells :: G) j = hget G j := fun j hj hjc => by rw [Qck hj]
   obtain ⟨G', g1, g2, g3, g4, g5⟩ := ih (i + 1) s (.var (encX l[i]).cells :: G) (by omega) (by omega) hs (up1 _ hr hjs) (by rw [Qck hcl]; exact hg) (hU.cons _)
   simp only [List.length_cons] at g4 g5
   refine ⟨G', ?_, g2, g3, by omega, fun j hj hjc => by rw [g5 j (by omega) hjc, hjs j hj hjc]⟩
   rw [regex_Either_l1_eq, ← g1]
   rw [e] at hk q2 ⊢
   simp only [X.k] at hk
   rw [encX_mk] at q2 ⊢
   simp only [Qan]
   simp (maxDischargeDepth := 9) only [Qah, Qag, Qbd, Qbc, Qet, Qeb, Qef, Qcz, Qhj, Qan, Qgo, Qgn, Qgs, Qgy, Qhc, Qdi, Qdt, Qde, Qdd, Qdc, Qhh, Qhf, Qcj, Qcn, Qfv, Qhi, decide_true, decide_false, if_true, List.drop_zero, List.drop_succ_cons, List.length_cons, List.length_nil, Nat.add_zero, Nat.zero_add, Bool.and_true, List.append_nil, Nat.reduceAdd, oLoad_ptr, oStore_ptr, List.drop_nil, le_s, Nat.le_refl, Nat.zero_le, or_true, and_self, Nat.max_self, List.take_zero, List.take_succ_cons, h', q1, q2, hk, j2]
end Go.Proofs.YtjnkigaiogjfcaaDoor
end

section
/- One of some: the program's, the whole. -/
namespace Go.Proofs.YtjnkigaiogjfcaaDoor
open Go Go.Ev Go.X7 Go.Srt
set_option linter.unusedVariables false
set_option linter.unusedSimpArgs false
set_option maxRecDepth 20000

theorem fold_eq {m M : List X} (h1 : Sd txt M) (h2 : St txt (baseX (joinB m) ++ othX m) M) : dd M = (othX m).foldl (fun a r => putX r a) (baseX (joinB m)) := sort_put (base_ss _) h1 h2
theorem Wf.of {l : List X} (hn : sizes l ≤ 1000000) (h : ∀ x ∈ l, x.ok) : ∀ z ∈ l, Wf z := fun z hz => ⟨Nat.le_trans (size_mem hz) hn, h z hz⟩
set_option maxHeartbeats 1000000 in
theorem p7_Either {H : Heap} {v : V} {l : List X} (hv : Sl H v l) (hn : sizes l ≤ 1000000) (hok : ∀ x ∈ l, x.ok) : E n_regex_Either [v] H = some (.ret (encX (eitherX l)), H) := by
 have hfl := flatK_len (k := 4) l
 have hfs := flatK_sizes (k := 4) l
 have hll := len_sizes l
 have hok2 := flatK_ok (k := 4) hok
 have hwf := Wf.of (l := flatK 4 l) (by omega) hok2
 unfold eitherX
 obtain ⟨v1, G1, a1, a2, a3⟩ := p7_flat (k := 4) (hv.up ((Up.refl H).cons (.var zX))) (by omega) (by omega)
 have hfl' : (flatK 4 l).length ≤ 1000000 := by omega
 generalize flatK 4 l = m at *
 have hU1 : Up H G1 := ((Up.refl H).cons _).trans a3
 have hH1 : hget G1 H.length = some (.var zX) := by rw [a3.get (by simp)]; simp
 have i1 := p7_is 0 G1
 have a4 := (a2.up ((Up.refl G1).cons (.var [.int .i64 0])))
 have hHv : hget (.var [.int .i64 0] :: G1) H.length = some (.var zX) := by rw [Qck (hget_lt hH1)]; exact hH1
 have hUv : Up H (.var [.int .i64 0] :: G1) := hU1.cons _
 have ne2 := fun G => p7_is 2 G
 have hs0 : S4.zero.cs = [.int .u64 0, .int .u64 0, .int .u64 0, .int .u64 0] := rfl
 rw [regex_Either_E, regex_Either_eq]
 cases a4 with
 | nils =>
  have d1 := p7_DeleteN (H := .var [.int .i64 0] :: G1) (c := G1.length) (k := 0)
  have hG3 : Up H (.var S4.zero.cs :: .var [.int .i64 0] :: G1) := hUv.cons _
  have d2 := p7_DeleteN (H := .var [.int .i64 2] :: .var S4.zero.cs :: .var [.int .i64 0] :: G1) (c := G1.length + 1 + 1) (k := 2)
  have e0 := neS S4.zero S4.zero
  have hH4 : hget (.var [.int .i64 2] :: .var S4.zero.cs :: .var [.int .i64 0] :: G1) H.length = some (.var zX) := by
   have := hget_lt hH1
   rw [Qck (by simp; omega), Qck (by simp; omega)]; exact hHv
  have j3 := ei_j3n (H := H) (hG3.cons (.var [.int .i64 2])) hH4
  have ez : decide (S4.zero = S4.zero) = true := decide_eq_true rfl
  rw [ez] at e0
  rw [hs0] at d2 e0 j3
  simp (maxDischargeDepth := 9) only [Qah, Qag, Qab, Qfa, Qan, Qgo, Qgn, Qgs, Qgy, Qfv, List.length_cons, Bool.and_true, a1, i1, d1, Int.lt_irrefl]
  rw [regex_Either_l1_eq]
  simp (maxDischargeDepth := 9) only [Qah, Qag, Qab, Qbc, Qet, Qef, Qcz, Qan, Qgo, Qgn, Qgs, Qgy, Qck, Qcj, Qfv, Qhi, decide_false, Bool.not_true, List.drop_zero, List.length_cons, List.length_nil, Nat.add_zero, Nat.zero_add, Bool.and_true, Nat.reduceAdd, oLoad_ptr, Nat.le_refl, Nat.lt_add_one, List.take_zero, List.take_succ_cons, Int.lt_irrefl, ne2, d2, bS0, hs0, e0, j3]
  rfl
 | rs i ver _ hb hg =>
  have hgB : hget (.var [.int .i64 0] :: G1) i = some (rowB ver m []) := by rw [hg]; simp [rowB]
  have hbi : H.length ≤ i := by simp only [List.length_cons] at hb; omega
  have hilt := hget_lt hgB
  obtain ⟨rest1, d1, d2⟩ := p7_DeleteR (c := G1.length) (k := 0) hgB (by simp) (by omega)
  obtain ⟨l1, hl1⟩ : ∃ l1, l1 = notK 0 m := ⟨_, rfl⟩
  rw [← hl1] at d1 d2
  have hl1sub : ∀ x ∈ l1, x ∈ m := fun x hx => by rw [hl1] at hx; exact (List.mem_filter.1 hx).1
  have hl1len : l1.length ≤ m.length := by rw [hl1]; exact List.length_filter_le _ _
  have hneH : H.length ≠ i := by rintro rfl; rw [hHv] at hgB; cases hgB
  obtain ⟨G2, hG2⟩ : ∃ G2, G2 = hset (.var [.int .i64 0] :: G1) i (rowB ver l1 rest1) := ⟨_, rfl⟩
  rw [← hG2] at d1
  have hG2i : hget G2 i = some (rowB ver l1 rest1) := by rw [hG2]; exact Qcl hilt
  have hG2H : hget G2 H.length = some (.var zX) := by rw [hG2, hget_other hneH]; exact hHv
  have hU2 : Up H G2 := by rw [hG2]; exact hUv.set hbi _
  have hG2l : i < G2.length := hget_lt hG2i
  -- the bytes
  obtain ⟨G3, g1, g2, g3, g4, g5⟩ := ei_l1 (H := H) (v := .rs i ver 6 0 l1.length) (l := l1) (by omega) (fun x hx => hok2 x (hl1sub x hx)) (c := G2.length) hU2.len l1.length 0 S4.zero (.var S4.zero.cs :: G2) (by omega) (Nat.zero_le _) S4.zero_ok
   (.rs i ver l1 rest1 (by rw [Qck hG2l]; exact hG2i)) (by simp) (hU2.cons _)
  rw [List.drop_zero] at g2
  obtain ⟨s, hs⟩ : ∃ s, s = joinF S4.zero l1 := ⟨_, rfl⟩
  have hsB : s = joinB m := by rw [hs, hl1, joinF_notK]; rfl
  have hsok : s.ok := by rw [hs]; exact joinF_ok S4.zero_ok fun x hx => hok2 x (hl1sub x hx)
  rw [← hs] at g2
  simp only [List.length_cons] at g4 g5
  have hG3i : hget G3 i = some (rowB ver l1 rest1) := by rw [g5 i (by omega) (by omega), Qck hG2l]; exact hG2i
  have hG3H : hget G3 H.length = some (.var zX) := by
   have := hget_lt hG2H
   rw [g5 H.length (by omega) (by omega), Qck this]; exact hG2H
  have hi3 := hget_lt hG3i
  -- without bytes
  have hG4i : hget (.var [.int .i64 2] :: G3) i = some (rowB ver l1 rest1) := by rw [Qck hi3]; exact hG3i
  obtain ⟨rest2, f1, f2⟩ := p7_DeleteR (c := G3.length) (k := 2) hG4i (by simp) (by omega)
  obtain ⟨l2, hl2⟩ : ∃ l2, l2 = notK 2 l1 := ⟨_, rfl⟩
  have hl2o : l2 = othX m := by rw [hl2, hl1]; exact oth_notK m
  rw [← hl2] at f1 f2
  have hl2len : l2.length ≤ l1.length := by rw [hl2]; exact List.length_filter_le _ _
  have hl2sub : ∀ x ∈ l2, x ∈ m := fun x hx => hl1sub x (by rw [hl2] at hx; exact (List.mem_filter.1 hx).1)
  obtain ⟨G5, hG5⟩ : ∃ G5, G5 = hset (.var [.int .i64 2] :: G3) i (rowB ver l2 rest2) := ⟨_, rfl⟩
  rw [← hG5] at f1
  have hG5i : hget G5 i = some (rowB ver l2 rest2) := by rw [hG5]; exact Qcl (by simp; omega)
  have hG5H : hget G5 H.length = some (.var zX) := by rw [hG5, hget_other hneH, Qck (hget_lt hG3H)]; exact hG3H
  have hG5c : hget G5 G2.length = some (.var s.cs) := by rw [hG5, hget_other (by omega), Qck (hget_lt g2)]; exact g2
  have hU5 : Up H G5 := by rw [hG5]; exact (g3.cons _).set hbi _
  have ns := neS s S4.zero
  have tS : takeCells true 4 s.cs = some (.agg s.cs) := rfl
  have lt1 : ¬ (l1.length : Int) < (l1.length : Int) := by omega
  have tail : regex_Either_l1 H.length (.rs i ver 6 0 l1.length) (.ptr H.length 0 0) (.ptr G2.length 0 0) (.rs i ver 6 0 l1.length) (.int .i64 (l1.length : Int)) (.int .i64 (l1.length : Int)) G3 = some (.ret (encX (ofL ((othX m).foldl (fun a r => putX r a) (baseX (joinB m))) 4 0)), H) := by
   rw [regex_Either_l1_eq]
   by_cases hz : s = S4.zero
   ·have hbase : baseX (joinB m) = [] := by rw [← hsB, hz]; rfl
    obtain ⟨M, m1, m2, m3⟩ := ei_j3 (H := H) hU5 hG5H hG5i hbi (by omega) (fun z hz => hwf z (hl2sub z hz))
    have hf := fold_eq (m := m) m1 (by rw [hbase, List.nil_append, ← hl2o]; exact m2)
    rw [← hf]
    rw [decide_eq_true hz] at ns
    simp (maxDischargeDepth := 9) only [Qah, Qag, Qab, Qbc, Qet, Qef, Qcz, Qan, Qgo, Qgn, Qgs, Qgy, Qfv, Qhi, decide_false, Bool.not_true, List.drop_zero, List.length_cons, List.length_nil, Nat.add_zero, Nat.zero_add, Bool.and_true, Nat.reduceAdd, oLoad_ptr, Nat.le_refl, List.take_zero, List.take_succ_cons, lt1, ne2, f1, hG5c, bS0, ns]
    exact m3
   ·have hbase : baseX (joinB m) = [.mk 2 s []] := by rw [← hsB]; unfold baseX; rw [if_neg hz]
    have hlt2 : l2.length < l1.length := by
     have : ∃ x ∈ l1, x.k = 2 := by
      refine Classical.byContradiction fun hc => hz ?_
      rw [hs]
      exact joinF_none _ fun x hx h2 => hc ⟨x, hx, h2⟩
     obtain ⟨x, hx, h2⟩ := this
     rw [hl2]
     exact filt_ltX hx (by simp [h2])
    have ins := p7_Insert (X.mk 2 s []) hG5i (by omega) (by omega)
    have o := p7_Of s G5
    have eo : ofX s = .mk 2 s [] := by unfold ofX; rw [if_neg hz]
    rw [eo] at o
    have hG6i : hget (hset G5 i (rowB ver (X.mk 2 s [] :: l2) (rest2.drop 6))) i = some (rowB ver (X.mk 2 s [] :: l2) (rest2.drop 6)) := Qcl (hget_lt hG5i)
    obtain ⟨M, m1, m2, m3⟩ := ei_j3 (H := H) (hU5.set hbi _) (by rw [hget_other hneH]; exact hG5H) hG6i hbi (by simp; omega) (fun z hz2 => by
     rcases List.mem_cons.1 hz2 with rfl | hz2
     ·exact ⟨by simp [X.size, sizes], hsok, trivial⟩
     ·exact hwf z (hl2sub z hz2))
    have hf := fold_eq (m := m) m1 (by rw [hbase, ← hl2o]; exact m2)
    rw [← hf]
    rw [decide_eq_false hz] at ns
    simp (maxDischargeDepth := 9) only [Qah, Qag, Qab, Qbd, Qbc, Qet, Qef, Qcz, Qan, Qgo, Qgn, Qgs, Qgy, Qfv, Qfe, decide_false, Bool.not_false, List.drop_zero, Nat.add_zero, Nat.zero_add, Bool.and_true, oLoad_ptr, lt1, ne2, f1, hG5c, bS0, tS, ns, o, ins]
    exact m3
  rw [tail] at g1
  rw [hs0] at g1
  have hG2len : G2.length = G1.length + 1 := by rw [hG2]; simp
  simp only [Qam] at g1
  simp (maxDischargeDepth := 9) only [Qah, Qag, Qab, Qfb, Qan, Qgo, Qgn, Qgs, Qgy, Qfv, Bool.and_true, a1, i1, d1]
  exact g1
end Go.Proofs.YtjnkigaiogjfcaaDoor
end

section
/- One more at its place; one of some: the document's. -/
namespace Go.Proofs.YtjnkigaiogjfcaaDoor
open Go Go.Ev Go.X7 Go.Srt
set_option linter.unusedVariables false
set_option linter.unusedSimpArgs false
set_option maxRecDepth 20000

theorem gtr_str (s t : List UInt8) : oBin .gtr 6 (.str s) (.str t) = some (.bool (!(Op.bytesLess s t || s == t))) := by
 rw [oBin_str _ _ _ _ (by simp) (by simp)]; rfl
theorem less_not {s t : List UInt8} (h : ¬ s = t) : (!(Op.bytesLess s t || s == t)) = Op.bytesLess t s := by
 have e : (s == t) = false := by simpa using h
 rw [e, Bool.or_false, less_cb, less_cb, Bool.eq_iff_iff]
 rcases cb_vals s t with c | c | c
 ·rw [cb_neg s t, c]; decide
 ·exact absurd (cb_zero _ _ c) h
 ·rw [cb_neg s t, c]; decide
/-- Where one more has found its place, the others follow. -/
theorem put_rest {H0 : Heap} {v : V} {l : List X} (hv : Sl H0 v l) (hl : l.length ≤ 100000000) (hw : ∀ z ∈ l, Wf z) {r : X} : ∀ (m i : Nat), l.length - i = m → i ≤ l.length → ∀ (pre : List X) (o : V) (G : Heap), pre.length ≤ 2 * i + 2 → Out7 (H0.length + 1) G o pre → Up (.var (encX r).cells :: H0) G →
  ref07_put_l1 H0.length v (.ptr H0.length 0 0) o (.str (txt r)) (.bool true) (.int .i64 (i : Int)) G = some (.ret (.vs (encXs (pre ++ l.drop i))), H0) := by
 intro m
 induction m with
 | zero =>
  intro i hm hi pre o G hp ho hU
  have hU0 : Up H0 G := ((Up.refl H0).cons _).trans hU
  have h' : ¬ (i : Int) < (l.length : Int) := by omega
  have hr := Out7.ret (H := H0) (G := G) (v := o) (l := pre) (by
   cases ho with
   | nils => exact .nils
   | rs j ver _ hb hg => exact .rs j ver _ (by omega) hg) hU0
  rw [List.drop_of_length_le (by omega), List.append_nil, ref07_put_l1_eq]
  simp (maxDischargeDepth := 9) only [Qah, Qbc, Qfu, Qef, decide_false, Bool.not_true, oLoad_ptr, (hv.up hU0).len, h']
  rw [ref07_put_j5_eq]
  exact hr
 | succ m ih =>
  intro i hm hi pre o G hp ho hU
  have hU0 : Up H0 G := ((Up.refl H0).cons _).trans hU
  have h : i < l.length := by omega
  have h' : (i : Int) < (l.length : Int) := by omega
  have w1 := w_add (a := i) (by omega)
  obtain ⟨p, p0, p5, q1, q2, -⟩ := (hv.up hU0).at h
  have hx := hw l[i] (List.getElem_mem h)
  have t1 := fun H => r7_Text 1000000 l[i] hx.1 (Nat.le_refl _) hx.2 H
  have lt := Qfe (.agg [.int .i64 0, .int .u64 0, .int .u64 0, .int .u64 0, .int .u64 0, .vs []]) l[i]
  obtain ⟨v1, G1, a1, a2, a3⟩ := Out7.appB (H := (.var (encX r).cells :: H0 : Heap)) (b := H0.length) (by simp) ho hU [l[i]] (by simp; omega)
  have k := ih (i + 1) (by omega) (by omega) (pre ++ [l[i]]) v1 G1 (by simp; omega) a2 a3
  have e : pre ++ [l[i]] ++ l.drop (i + 1) = pre ++ l.drop i := by rw [List.drop_eq_getElem_cons h]; simp
  rw [e] at k
  simp only [encXs] at a1
  have j3 : ref07_put_j3 H0.length v (.ptr H0.length 0 0) o (.str (txt r)) (.bool true) (.int .i64 (i : Int)) G = some (.ret (.vs (encXs (pre ++ l.drop i))), H0) := by
   rw [ref07_put_j3_eq]
   simp (maxDischargeDepth := 9) only [Qah, Qag, q1, q2, lt, a1]
   rw [ref07_put_j4_eq]
   simp (maxDischargeDepth := 9) only [Qah, Qdx, w1]
   exact k
  have j2 : ref07_put_j2 H0.length v (.ptr H0.length 0 0) o (.str (txt r)) (.bool true) (.int .i64 (i : Int)) (.str (txt l[i])) G = some (.ret (.vs (encXs (pre ++ l.drop i))), H0) := by
   rw [ref07_put_j2_eq]
   cases hb : (!(Op.bytesLess (txt l[i]) (txt r) || txt l[i] == txt r)) <;> simp (maxDischargeDepth := 9) only [Qah, Qbc, Qci, Qcf, Qfm, Qfr, Qfq, Qfu, Bool.not_true, oLoad_ptr, gtr_str, hb, j3]
  rw [ref07_put_l1_eq]
  cases he : decide (txt l[i] = txt r) <;> simp (maxDischargeDepth := 9) only [Qah, Qab, Qbd, Qbc, Qfu, Qef, Qej, decide_true, Bool.not_true, oLoad_ptr, (hv.up hU0).len, h', q1, q2, t1, he, j2]
theorem put_l {H0 : Heap} {v : V} {l : List X} (hv : Sl H0 v l) (hl : l.length ≤ 100000000) (hw : ∀ z ∈ l, Wf z) {r : X} : ∀ (m i : Nat), l.length - i = m → i ≤ l.length → ∀ (pre : List X) (o : V) (G : Heap), pre.length = i → Out7 (H0.length + 1) G o pre → Up (.var (encX r).cells :: H0) G →
  ref07_put_l1 H0.length v (.ptr H0.length 0 0) o (.str (txt r)) (.bool false) (.int .i64 (i : Int)) G = some (.ret (.vs (encXs (pre ++ putX r (l.drop i)))), H0) := by
 intro m
 induction m with
 | zero =>
  intro i hm hi pre o G hp ho hU
  have hU0 : Up H0 G := ((Up.refl H0).cons _).trans hU
  have h' : ¬ (i : Int) < (l.length : Int) := by omega
  have hr0 : hget G H0.length = some (.var (encX r).cells) := by rw [hU.get (by simp)]; simp
  have lt := Qfe (.agg [.int .i64 0, .int .u64 0, .int .u64 0, .int .u64 0, .int .u64 0, .vs []]) r
  obtain ⟨v1, G1, a1, a2, a3⟩ := Out7.appB (H := (.var (encX r).cells :: H0 : Heap)) (b := H0.length) (by simp) ho hU [r] (by simp; omega)
  have hU1 : Up H0 G1 := ((Up.refl H0).cons _).trans a3
  have hr := Out7.ret (H := H0) (G := G1) (v := v1) (l := pre ++ [r]) (by
   generalize pre ++ [r] = L at a2 ⊢
   cases a2 with
   | nils => exact .nils
   | rs j ver _ hb hg => exact .rs j ver _ (by simp only [List.length_cons] at hb; omega) hg) hU1
  simp only [encXs] at a1
  rw [List.drop_of_length_le (by omega), ref07_put_l1_eq]
  simp (maxDischargeDepth := 9) only [Qah, Qag, Qbd, Qbc, Qfu, Qef, Qcz, Qhi, Qbg, Qbf, Qbo, decide_false, Bool.not_false, List.drop_zero, oLoad_ptr, Nat.le_refl, (hv.up hU0).len, h', hr0, takeX, lt, a1]
  rw [ref07_put_j5_eq]
  exact hr
 | succ m ih =>
  intro i hm hi pre o G hp ho hU
  have hU0 : Up H0 G := ((Up.refl H0).cons _).trans hU
  have h : i < l.length := by omega
  have h' : (i : Int) < (l.length : Int) := by omega
  have w1 := w_add (a := i) (by omega)
  have hr0 : hget G H0.length = some (.var (encX r).cells) := by rw [hU.get (by simp)]; simp
  obtain ⟨p, p0, p5, q1, q2, -⟩ := (hv.up hU0).at h
  have hx := hw l[i] (List.getElem_mem h)
  have t1 := fun H => r7_Text 1000000 l[i] hx.1 (Nat.le_refl _) hx.2 H
  have lt := Qfe (.agg [.int .i64 0, .int .u64 0, .int .u64 0, .int .u64 0, .int .u64 0, .vs []]) l[i]
  have lr := Qfe (.agg [.int .i64 0, .int .u64 0, .int .u64 0, .int .u64 0, .int .u64 0, .vs []]) r
  have hd : l.drop i = l[i] :: l.drop (i + 1) := List.drop_eq_getElem_cons h
  -- from here on the others
  have follow : ∀ (pre : List X) (o : V) (G : Heap), pre.length ≤ 2 * i + 1 → Out7 (H0.length + 1) G o pre → Up (.var (encX r).cells :: H0) G →
    ref07_put_j3 H0.length v (.ptr H0.length 0 0) o (.str (txt r)) (.bool true) (.int .i64 (i : Int)) G = some (.ret (.vs (encXs (pre ++ l.drop i))), H0) := by
   intro pre o G hp ho hU
   have hU0 : Up H0 G := ((Up.refl H0).cons _).trans hU
   obtain ⟨p, p0, p5, q1, q2, -⟩ := (hv.up hU0).at h
   obtain ⟨v1, G1, a1, a2, a3⟩ := Out7.appB (H := (.var (encX r).cells :: H0 : Heap)) (b := H0.length) (by simp) ho hU [l[i]] (by simp; omega)
   have k := put_rest hv hl hw (r := r) (l.length - (i + 1)) (i + 1) rfl (by omega) (pre ++ [l[i]]) v1 G1 (by simp; omega) a2 a3
   have e : pre ++ [l[i]] ++ l.drop (i + 1) = pre ++ l.drop i := by rw [hd]; simp
   rw [e] at k
   simp only [encXs] at a1
   rw [ref07_put_j3_eq]
   simp (maxDischargeDepth := 9) only [Qah, Qag, q1, q2, lt, a1]
   rw [ref07_put_j4_eq]
   simp (maxDischargeDepth := 9) only [Qah, Qdx, w1]
   exact k
  by_cases he : txt l[i] = txt r
  ·have ep : putX r (l.drop i) = l.drop i := by rw [hd, putX, if_pos he]
   rw [ep]
   have j3 := follow pre o G (by omega) ho hU
   rw [ref07_put_l1_eq]
   simp (maxDischargeDepth := 9) only [Qah, Qab, Qbd, Qfu, Qef, Qej, decide_true, Bool.not_false, oLoad_ptr, (hv.up hU0).len, h', q1, q2, t1, he]
   rw [ref07_put_j2_eq]
   cases hb : (!(Op.bytesLess (txt r) (txt r) || txt r == txt r)) <;> simp (maxDischargeDepth := 9) only [Qah, Qbc, Qcf, Qfm, Qfq, Bool.not_true, Bool.or_true, beq_self_eq_true, oLoad_ptr, gtr_str, hb, j3]
  ·by_cases hb : Op.bytesLess (txt r) (txt l[i]) = true
   ·have ep : putX r (l.drop i) = r :: l.drop i := by rw [hd, putX, if_neg he, if_pos hb]
    rw [ep]
    obtain ⟨v1, G1, a1, a2, a3⟩ := Out7.appB (H := (.var (encX r).cells :: H0 : Heap)) (b := H0.length) (by simp) ho hU [r] (by simp; omega)
    have j3 := follow (pre ++ [r]) v1 G1 (by simp; omega) a2 a3
    have e : pre ++ [r] ++ l.drop i = pre ++ r :: l.drop i := by simp
    rw [e] at j3
    simp only [encXs] at a1
    rw [ref07_put_l1_eq]
    simp (maxDischargeDepth := 9) only [Qah, Qab, Qbd, Qbc, Qfu, Qef, Qej, decide_true, decide_false, Bool.not_false, oLoad_ptr, (hv.up hU0).len, h', q1, q2, t1, he]
    rw [ref07_put_j2_eq]
    simp (maxDischargeDepth := 9) only [Qah, Qag, Qbd, Qci, Qfm, Qfr, Qfu, Qcz, Qhi, Qbg, Qbf, Qbo, Bool.not_false, List.drop_zero, oLoad_ptr, Nat.le_refl, gtr_str, less_not he, hb, hr0, takeX, lr, a1, j3]
   ·have ep : putX r (l.drop i) = l[i] :: putX r (l.drop (i + 1)) := by rw [hd, putX, if_neg he, if_neg hb]
    rw [ep]
    obtain ⟨v1, G1, a1, a2, a3⟩ := Out7.appB (H := (.var (encX r).cells :: H0 : Heap)) (b := H0.length) (by simp) ho hU [l[i]] (by simp; omega)
    have k := ih (i + 1) (by omega) (by omega) (pre ++ [l[i]]) v1 G1 (by simp; omega) a2 a3
    have e : pre ++ [l[i]] ++ putX r (l.drop (i + 1)) = pre ++ l[i] :: putX r (l.drop (i + 1)) := by simp
    rw [e] at k
    have hb' : Op.bytesLess (txt r) (txt l[i]) = false := by simpa using hb
    simp only [encXs] at a1
    rw [ref07_put_l1_eq]
    simp (maxDischargeDepth := 9) only [Qah, Qab, Qbd, Qbc, Qfu, Qef, Qej, decide_true, decide_false, Bool.not_false, oLoad_ptr, (hv.up hU0).len, h', q1, q2, t1, he]
    rw [ref07_put_j2_eq]
    simp (maxDischargeDepth := 9) only [Qah, Qbc, Qcf, Qfm, Qfq, oLoad_ptr, gtr_str, less_not he, hb']
    rw [ref07_put_j3_eq]
    simp (maxDischargeDepth := 9) only [Qah, Qag, q1, q2, lt, a1]
    rw [ref07_put_j4_eq]
    simp (maxDischargeDepth := 9) only [Qah, Qdx, w1]
    exact k
theorem r7_put {H : Heap} {v : V} {l : List X} (hv : Sl H v l) (hl : l.length ≤ 100000000) (hw : ∀ z ∈ l, Wf z) {r : X} (hr : Wf r) : E n_ref07_put [v, encX r] H = some (.ret (.vs (encXs (putX r l))), H) := by
 have t1 := fun H => r7_Text 1000000 r hr.1 (Nat.le_refl _) hr.2 H
 have k := put_l hv hl hw (r := r) l.length 0 rfl (Nat.zero_le _) [] .nils (.var (encX r).cells :: H) rfl .nils (Up.refl _)
 simp only [Qam, List.drop_zero, List.nil_append] at k
 rw [ref07_put_E, ref07_put_eq]
 simp (maxDischargeDepth := 9) only [Qah, Qag, Qab, Qcz, Qcj, Qfv, Qhi, Qbg, Qbm, Qbf, Qbo, List.drop_zero, oLoad_ptr, Nat.le_refl, takeX, t1, k]
end Go.Proofs.YtjnkigaiogjfcaaDoor
end

section
/- One of some: the document's, the whole. -/
namespace Go.Proofs.YtjnkigaiogjfcaaDoor
open Go Go.Ev Go.X7 Go.Srt
set_option linter.unusedVariables false
set_option linter.unusedSimpArgs false
set_option maxRecDepth 20000

theorem put_len (r : X) (l : List X) : (putX r l).length ≤ l.length + 1 := by
 induction l with
 | nil => simp [putX]
 | cons y l ih =>
  unfold putX
  split
  ·simp
  ·split <;> simp [ih]
theorem ofV_vs (L : List X) (kind none : Int) : ofV (.vs (encXs L)) L kind none = encX (ofL L kind none) := by
 match L with
 | [] => rfl
 | [x] => rfl
 | x :: y :: L => rfl
/-- What many are, from a row or a list. -/
inductive Od (base : Nat) (G : Heap) : V → List X → Prop where
 | vs (l : List X) : Od base G (.vs (encXs l)) l
 | out (v : V) (l : List X) (h : Out7 base G v l) : Od base G v l
theorem Od.sl {base : Nat} {G : Heap} {v : V} {l : List X} (h : Od base G v l) : Sl G v l := by
 cases h with
 | vs => exact .vs _
 | out v l h => exact h.sl
theorem od_end {H G : Heap} (hU : Up H G) (hH : hget G H.length = some (.var zX)) {v : V} {l : List X} (h : Od (H.length + 1) G v l) (kind none : Int) :
  ∃ G', oStore H.length 6 G (.ptr H.length 0 0) (ofV v l kind none) = some (.tup [], G') ∧ oLoad true 6 G' (.ptr H.length 0 0) = some (ofV v l kind none) ∧ rt false H.length (ofV v l kind none) G' = some (.ret (encX (ofL l kind none)), H) := by
 cases h with
 | out v l h => exact some_end hU hH h kind none
 | vs =>
  rw [ofV_vs]
  have st := store_own (H := H) (G := G) (t := H.length) (Nat.le_refl _) (cs := zX) rfl hH (x := encX (ofL l kind none)) (by simp) (by simp)
  have hs : hget (hset G H.length (.var (encX (ofL l kind none)).cells)) H.length = some (.var (encX (ofL l kind none)).cells) := Qcl (hget_lt hH)
  refine ⟨_, st, by rw [oLoad_ptr, hs, Qcz, List.drop_zero, takeX], ?_⟩
  rw [Qbl, (hU.set (Nat.le_refl _) _).trunc]
theorem re_l4 {H G : Heap} (hU : Up H G) (hH : hget G H.length = some (.var zX)) {m : List X} (hm : m.length ≤ 10000000) (hw : ∀ z ∈ m, Wf z) : ∀ (k i : Nat) (o : V) (L : List X), m.length - i = k → i ≤ m.length → L.length ≤ i + 1 → (∀ z ∈ L, Wf z) → Od (H.length + 1) G o L →
  ref07_Either_l4 H.length (.ptr H.length 0 0) (.vs (encXs m)) o (.int .i64 (i : Int)) G = some (.ret (encX (ofL ((othX (m.drop i)).foldl (fun a r => putX r a) L) 4 0)), H) := by
 intro k
 induction k with
 | zero =>
  intro i o L hk hi hL hwL ho
  have h' : ¬ (i : Int) < (m.length : Int) := by omega
  rw [List.drop_of_length_le (by omega), ref07_Either_l4_eq]
  have hl := ho.sl.len
  obtain ⟨G', s1, s2, s3⟩ := od_end hU hH ho 4 0
  rw [show (othX []).foldl (fun a r => putX r a) L = L from rfl]
  by_cases h0 : L = []
  ·subst h0
   have b := bX0
   have st := store_own (H := H) (G := G) (t := H.length) (Nat.le_refl _) (cs := zX) rfl hH (x := .agg zX) rfl rfl
   have hs : hget (hset G H.length (.var zX)) H.length = some (.var zX) := Qcl (hget_lt hH)
   have hT := (hU.set (i := H.length) (Nat.le_refl _) (.var zX)).trunc
   simp only [List.length_nil, Qam] at hl
   simp only [Qan] at st
   simp (maxDischargeDepth := 9) only [Qah, Qag, Qbd, Qbc, Qfm, Qfc, Qeb, Qef, Qcz, Qdi, Qdt, Qde, Qdd, Qdc, Qhi, Qgb, Qga, Qbe, Qbx, Qca, Qbt, Qdb, Qda, Qbp, decide_true, decide_false, if_true, List.drop_zero, List.length_cons, List.length_nil, Nat.zero_add, Option.bind_some, Option.map_some, Nat.reduceAdd, oLoad_ptr, Nat.le_refl, Nat.zero_le, Nat.max_self, List.take_zero, List.take_succ_cons, h', hl, b, st, hs, hT]
   rfl
  ·obtain ⟨n, hn⟩ : ∃ n : Int, n = (L.length : Int) := ⟨_, rfl⟩
   have hn0 : ¬ n = 0 := by have := List.length_pos_iff.2 h0; omega
   rw [← hn] at hl
   have sm := r7_some ho.sl h0 4 0
   simp (maxDischargeDepth := 9) only [Qah, Qag, Qab, Qbc, Qfm, Qfc, Qeb, Qef, Qen, Qbp, decide_false, h', hl, hn0, sm, s1, s2, s3]
 | succ k ih =>
  intro i o L hk hi hL hwL ho
  have h : i < m.length := by omega
  have h' : (i : Int) < (m.length : Int) := by omega
  have w1 := w_add (a := i) (by omega)
  obtain ⟨p, p0, p5, q1, q2, q3, q4, -⟩ := (Sl.vs (H := G) m).at h
  have hx := hw m[i] (List.getElem_mem h)
  have hd : m.drop i = m[i] :: m.drop (i + 1) := List.drop_eq_getElem_cons h
  have j5 : ∀ o, ref07_Either_j5 H.length (.ptr H.length 0 0) (.vs (encXs m)) o (.int .i64 (i : Int)) G = ref07_Either_l4 H.length (.ptr H.length 0 0) (.vs (encXs m)) o (.int .i64 ((i + 1 : Nat) : Int)) G := fun o => by
   rw [ref07_Either_j5_eq]; simp (maxDischargeDepth := 9) only [Qah, Qdx, w1]
  by_cases hk2 : (!decide (m[i].k = 0) && !decide (m[i].k = 2)) = true
  ·have eo : othX (m.drop i) = m[i] :: othX (m.drop (i + 1)) := by rw [hd]; unfold othX; rw [List.filter_cons, if_pos hk2]
   rw [eo, List.foldl_cons]
   have pt := r7_put ho.sl (by omega) hwL hx
   have k2 := ih (i + 1) (.vs (encXs (putX m[i] L))) (putX m[i] L) (by omega) (by omega) (by have := put_len m[i] L; omega) (fun z hz => by
    rcases put_mem m[i] L z hz with rfl | hz
    ·exact hx
    ·exact hwL z hz) (.vs _)
   rw [ref07_Either_l4_eq]
   simp only [Bool.and_eq_true, Bool.not_eq_true', decide_eq_false_iff_not] at hk2
   obtain ⟨n1, n2⟩ := hk2
   simp (maxDischargeDepth := 9) only [Qah, Qab, Qbd, Qci, Qfm, Qfr, Qfc, Qeh, Qef, Qen, Qbp, decide_true, decide_false, Bool.not_false, oLoad_ptr, oStore_ptr, h', q1, q2, q3, q4, n1, n2, pt, j5, k2]
  ·have eo : othX (m.drop i) = othX (m.drop (i + 1)) := by rw [hd]; unfold othX; rw [List.filter_cons, if_neg hk2]
   rw [eo]
   have k2 := ih (i + 1) o L (by omega) (by omega) (by omega) hwL ho
   rw [ref07_Either_l4_eq]
   by_cases n1 : m[i].k = 0
   ·simp (maxDischargeDepth := 9) only [Qah, Qbd, Qbc, Qcf, Qfm, Qfq, Qfc, Qeh, Qef, Qen, Qbp, decide_true, Bool.not_true, oLoad_ptr, oStore_ptr, h', q1, q3, q4, n1, j5, k2]
   ·have n2 : m[i].k = 2 := by simpa [n1] using hk2
    rw [n2] at q4
    have n20 : ¬ (2 : Int) = 0 := by decide
    simp (maxDischargeDepth := 9) only [Qah, Qbd, Qbc, Qci, Qfm, Qfr, Qfc, Qeh, Qef, Qen, Qbp, decide_true, decide_false, Bool.not_true, Bool.not_false, oLoad_ptr, oStore_ptr, h', q1, q3, q4, n20, j5, k2]
theorem oFieldX1 {G : Heap} {m : List X} {j : Nat} (hj : j < m.length) : ∃ p p0 p1, oIndexPtr 6 (.vs (encXs m)) (.int .i64 (j : Int)) = some p ∧ oFieldPtr p 0 = some p0 ∧ oLoad false 1 G p0 = some (.int .i64 m[j].k) ∧ oFieldPtr p 1 = some p1 ∧ oLoad true 4 G p1 = some (.agg m[j].s.cs) := by
 refine ⟨_, _, _, idxX hj .i64, oFieldPtr_fptr _ 0 (by simp), ?_, oFieldPtr_fptr _ 1 (by simp), ?_⟩
 ·obtain ⟨k, s, ks, e⟩ : ∃ k s ks, m[j] = .mk k s ks := by cases m[j] with | mk k s ks => exact ⟨k, s, ks, rfl⟩
  rw [e]
  simp [encX_mk, X.k]
 ·obtain ⟨k, s, ks, e⟩ : ∃ k s ks, m[j] = .mk k s ks := by cases m[j] with | mk k s ks => exact ⟨k, s, ks, rfl⟩
  rw [e]
  simp [encX_mk, X.s, takeCells]
theorem re_l1 {H : Heap} {m : List X} (hm : m.length ≤ 10000000) (hw : ∀ z ∈ m, Wf z) : ∀ (k i : Nat) (s : S4), m.length - i = k → i ≤ m.length → s.ok → joinF s (m.drop i) = joinB m →
  ref07_Either_l1 H.length (.ptr H.length 0 0) (.vs (encXs m)) .nils (.ptr (H.length + 1) 0 0) (.int .i64 (i : Int)) (.var s.cs :: .var zX :: H) = some (.ret (encX (ofL ((othX m).foldl (fun a r => putX r a) (baseX (joinB m))) 4 0)), H) := by
 intro k
 induction k with
 | zero =>
  intro i s hk hi hs hj
  have h' : ¬ (i : Int) < (m.length : Int) := by omega
  rw [List.drop_of_length_le (by omega)] at hj
  have hj : s = joinB m := hj
  have hU : Up H (.var s.cs :: .var zX :: H) := ((Up.refl H).cons _).cons _
  have c := fun G => r1_Count hs G
  have hz := S4.zero_bytes hs
  rw [ref07_Either_l1_eq]
  by_cases h0 : s = S4.zero
  ·have e : ¬ (0 : Int) < (s.bytes.length : Int) := by rw [hz.1 h0]; simp
   have k4 := re_l4 (H := H) (G := .var s.cs :: .var zX :: H) hU (by simp) hm hw m.length 0 .nils [] rfl (Nat.zero_le _) (by simp) (by simp) (.out _ _ .nils)
   have hb : baseX (joinB m) = [] := by rw [← hj, h0]; rfl
   rw [hb]
   simp only [Qam, List.drop_zero] at k4
   simp (maxDischargeDepth := 9) only [Qah, Qab, Qbc, Qfc, Qef, Qed, Qcz, Qcj, Qhi, Qbp, decide_false, List.drop_zero, List.length_cons, List.length_nil, Nat.zero_add, Nat.reduceAdd, oLoad_ptr, oStore_ptr, Nat.le_refl, List.take_zero, List.take_succ_cons, h', c, e]
   rw [ref07_Either_j3_eq]
   exact k4
  ·have e : (0 : Int) < (s.bytes.length : Int) := by
    have : s.bytes ≠ [] := fun x => h0 (hz.2 x)
    have := List.length_pos_iff.2 this
    omega
   have hb : baseX (joinB m) = [.mk 2 s []] := by rw [← hj]; unfold baseX; rw [if_neg h0]
   have o := fun G => r7_Of hs G
   have eo : ofX s = .mk 2 s [] := by unfold ofX; rw [if_neg h0]
   rw [eo] at o
   have ap := fun G : Heap => encX_ok.append_nil (base := H.length) (by_ := 64) (H := G) (a := X.mk 2 s []) (by decide)
   have hr : hget (.row 0 6 true (cellsX [X.mk 2 s []]) :: .var s.cs :: .var zX :: H) (H.length + 2) = some (.row 0 6 true (cellsX [X.mk 2 s []])) := by simp
   have hHr : hget (.row 0 6 true (cellsX [X.mk 2 s []]) :: .var s.cs :: .var zX :: H) H.length = some (.var zX) := by
    rw [Qck (by simp only [List.length_cons]; omega), Qck (by simp only [List.length_cons]; omega), Qcm]
   have k4 := re_l4 (H := H) (G := .row 0 6 true (cellsX [X.mk 2 s []]) :: .var s.cs :: .var zX :: H) (hU.cons _) hHr hm hw m.length 0 (.rs (H.length + 2) 0 6 0 1) [X.mk 2 s []] rfl (Nat.zero_le _) (by simp) (fun z hz2 => by
    obtain rfl := List.mem_singleton.1 hz2
    exact ⟨by simp [X.size, sizes], hs, trivial⟩) (.out _ _ (.rs (H.length + 2) 0 [X.mk 2 s []] (by omega) hr))
   rw [hb]
   simp only [Qam, List.drop_zero] at k4
   simp (maxDischargeDepth := 9) only [Qah, Qag, Qab, Qbd, Qbc, Qfc, Qef, Qed, Qcz, Qcj, Qhi, Qbp, Qfe, decide_true, decide_false, List.drop_zero, List.length_cons, List.length_nil, Nat.zero_add, Nat.reduceAdd, oLoad_ptr, oStore_ptr, Nat.le_refl, List.take_zero, List.take_succ_cons, h', c, e, o, ap]
   rw [ref07_Either_j3_eq]
   exact k4
 | succ k ih =>
  intro i s hk hi hs hj
  have h : i < m.length := by omega
  have h' : (i : Int) < (m.length : Int) := by omega
  have w1 := w_add (a := i) (by omega)
  obtain ⟨p, p0, p1, q1, q3, q4, q5, q6⟩ := oFieldX1 (G := .var s.cs :: .var zX :: H) h
  have hx := hw m[i] (List.getElem_mem h)
  have hd : m.drop i = m[i] :: m.drop (i + 1) := List.drop_eq_getElem_cons h
  have j2 : ∀ G, ref07_Either_j2 H.length (.ptr H.length 0 0) (.vs (encXs m)) .nils (.ptr (H.length + 1) 0 0) (.int .i64 (i : Int)) G = ref07_Either_l1 H.length (.ptr H.length 0 0) (.vs (encXs m)) .nils (.ptr (H.length + 1) 0 0) (.int .i64 ((i + 1 : Nat) : Int)) G := fun G => by
   rw [ref07_Either_j2_eq]; simp (maxDischargeDepth := 9) only [Qah, Qdx, w1]
  rw [hd] at hj
  unfold joinF at hj
  rw [List.foldl_cons] at hj
  by_cases hk2 : m[i].k = 2
  ·rw [if_pos hk2] at hj
   have jn := fun G => r1_Join hs (X.ok_set hx.2) G
   have k2 := ih (i + 1) (s.join m[i].s) (by omega) (by omega) (S4.join_ok hs (X.ok_set hx.2)) hj
   have hsp : splice s.cs 0 (s.join m[i].s).cs = (s.join m[i].s).cs := rfl
   rw [ref07_Either_l1_eq]
   simp (maxDischargeDepth := 9) only [Qah, Qag, Qab, Qbd, Qfc, Qeb, Qef, Qcz, Qan, Qgo, Qgn, Qgs, Qdi, Qde, Qdd, Qdc, Qhh, Qcj, Qcn, Qhi, Qbp, decide_true, if_true, List.drop_zero, List.length_cons, List.length_nil, Nat.zero_add, Bool.and_true, Nat.reduceAdd, oLoad_ptr, oStore_ptr, le_s, Nat.le_refl, Nat.zero_le, or_true, and_self, Nat.max_self, List.take_zero, List.take_succ_cons, h', q1, q3, q4, hk2, q5, q6, jn, hsp, j2, k2]
  ·rw [if_neg hk2] at hj
   have k2 := ih (i + 1) s (by omega) (by omega) hs hj
   rw [ref07_Either_l1_eq]
   simp (maxDischargeDepth := 9) only [Qah, Qbd, Qbc, Qfc, Qeb, Qef, Qcz, Qcj, Qhi, Qbp, decide_true, decide_false, List.drop_zero, List.length_cons, List.length_nil, Nat.zero_add, Nat.reduceAdd, oLoad_ptr, oStore_ptr, Nat.le_refl, List.take_zero, List.take_succ_cons, h', q1, q3, q4, hk2, j2, k2]
theorem r7_Either {H : Heap} {v : V} {l : List X} (hv : Sl H v l) (hn : sizes l ≤ 1000000) (hok : ∀ x ∈ l, x.ok) : E n_ref07_Either [v] H = some (.ret (encX (eitherX l)), H) := by
 have hfl := flatK_len (k := 4) l
 have hfs := flatK_sizes (k := 4) l
 have hll := len_sizes l
 have hwf := Wf.of (l := flatK 4 l) (by omega) (flatK_ok (k := 4) hok)
 have f := r7_flat (k := 4) (hv.up ((Up.refl H).cons (.var zX))) (by omega) (by omega)
 have k := re_l1 (H := H) (m := flatK 4 l) (by omega) hwf (flatK 4 l).length 0 S4.zero rfl (Nat.zero_le _) S4.zero_ok rfl
 have hs0 : S4.zero.cs = [.int .u64 0, .int .u64 0, .int .u64 0, .int .u64 0] := rfl
 rw [hs0] at k
 simp only [Qam] at k
 rw [ref07_Either_E, ref07_Either_eq]
 simp (maxDischargeDepth := 9) only [Qag, Qab, Qan, Qgo, Qgn, Qgs, Qgy, Qfv, List.length_cons, Bool.and_true, f, k, eitherX]
end Go.Proofs.YtjnkigaiogjfcaaDoor
end

