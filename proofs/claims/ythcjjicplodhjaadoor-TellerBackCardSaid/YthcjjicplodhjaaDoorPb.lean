/- Pb: a part of the proof that each law of this seat answers true at every input. No condition. -/
import Derived.Test.YthcjjicplodhjaaDoorPa
set_option linter.unusedVariables false
set_option linter.unusedSimpArgs false
set_option maxRecDepth 20000
section
/- The document's reader, function by function: texts in quotes, values. -/
namespace Go.Proofs.YthcjjicplodhjaaDoor
open Go Go.Ev
set_option linter.unusedVariables false
set_option linter.unusedSimpArgs false

/-- As before, where nothing has failed yet, and a byte is here. -/
def RfC0 {α : Type} (n : FuncId) (args : List V) (enc : α → V) (w : Nat) (f : List UInt8 → Rd.Res α) : Prop :=
  ∀ {p : Nat} {S : List UInt8} {a : Nat} {H : Heap}, RfAt H p S a 0 → S.length < 60000 → a < S.length →
    ∃ x a' e', E n (.ptr p 0 0 :: args) H = some (.ret (enc x), rfSet H p S a' e') ∧ a' ≤ S.length + w ∧ Rel S (f (S.drop a)) x a' e'

theorem quot_hd (s : List UInt8) : (decide (32 ≤ hd s) && decide (hd s < 127) && !decide (hd s = 34)) = hdP Rd.isQuot s := by
  cases s with
  | nil => rfl
  | cons c s =>
    show (decide (32 ≤ (c.toNat : Int)) && decide ((c.toNat : Int) < 127) && !decide ((c.toNat : Int) = 34)) = Rd.isQuot c
    unfold Rd.isQuot
    have e : decide ((c.toNat : Int) = 34) = (c.toNat == 34) := hd_eq (c :: s) 34
    rw [e]
    congr 1
    rw [Bool.eq_iff_iff]; simp only [Bool.and_eq_true, decide_eq_true_eq]; omega
theorem oSliceStr_mid {s : List UInt8} {k l : IntKind} {a b : Nat} (h : a ≤ b) (hb : b ≤ s.length) : oSliceStr (.str s) (some (.int k a)) (some (.int l b)) none = some (.str ((s.take b).drop a)) := by
  rw [oSliceStr_eq]; simp [vSliceStr, vBound, h, hb]
theorem mid_one {s : List UInt8} {a : Nat} {c : UInt8} {r : List UInt8} (h : s.drop a = c :: r) : (s.take (a + 1)).drop a = [c] := by
  rw [List.drop_take, h]
  simp

theorem r_quoted_l {p : Nat} {S : List UInt8} (hl : S.length < 60000) {base : Nat} : ∀ (r : List UInt8) {a : Nat} {acc : List UInt8} {H : Heap}, RfAt H p S a 0 → base = H.length → S.drop a = r → a ≤ S.length → acc.length + r.length < 1000000 →
    ref03_reader_quoted_l1 base (.ptr p 0 0) (.str acc) H = some (.ret (.str (acc ++ r.takeWhile Rd.isQuot)), rfSet H p S (a + (r.takeWhile Rd.isQuot).length + 1) (if Rd.headIs (r.dropWhile Rd.isQuot) 34 then 0 else 20))
  | r, a, acc, H, hs, hB, hd0, ha, hal => by
    subst hB
    have hp := hget_lt hs
    have h0 := r_at hs hl 0 (by omega)
    simp only [Qam, Nat.add_zero] at h0
    have hq := quot_hd (S.drop a)
    have h34 := hd_eq (S.drop a) 34
    simp only [Qam] at h34
    have stop : hdP Rd.isQuot (S.drop a) = false → ref03_reader_quoted_l1 H.length (.ptr p 0 0) (.str acc) H = some (.ret (.str acc), rfSet H p S (a + 1) (if Rd.headIs (S.drop a) 34 then 0 else 20)) := by
      intro hh
      rw [hh] at hq
      have hf := r_fail hs 20
      simp only [rfSet, if_true] at hf
      have ws := wrap_succ (show a < 4611686018427387904 by omega)
      rw [ref03_reader_quoted_l1_eq]
      cases h1 : decide (32 ≤ hd (S.drop a)) with
      | false =>
        have h2 : Rd.headIs (S.drop a) 34 = false := by
          rw [← h34]; simp at h1 ⊢; omega
        rw [h2] at h34 ⊢
        simp (maxDischargeDepth := 9) only [Qah, Qag, Qab, Qbe, Qbd, Qci, Qfp, Qft, Qfr, Qew, Qea, Qek, Qef, Qdc, Qhm, Qgl, Qas, Qgr, Qgq, Qgv, Qdl, Qhk, Qhi, Qhh, Qcv, Qco, Qcs, Bool.not_false, if_true, if_false, List.drop_zero, List.drop_succ_cons, List.length_cons, List.length_nil, Nat.add_zero, Nat.zero_add, Bool.and_true, Bool.false_eq_true, List.nil_append, List.cons_append, Nat.reduceAdd, oLoad_ptr, oStore_ptr, le_s, Nat.le_refl, Nat.zero_le, or_true, and_self, h0, h1, h34, hf, ref03_reader_quoted_j2_eq, hp, ws, rfSet]
      | true =>
        cases h2 : decide (hd (S.drop a) < 127) with
        | false =>
          have h3 : Rd.headIs (S.drop a) 34 = false := by
            rw [← h34]; simp at h2 ⊢; omega
          rw [h3] at h34 ⊢
          simp (maxDischargeDepth := 9) only [Qah, Qag, Qab, Qbe, Qbd, Qcl, Qci, Qfp, Qfu, Qft, Qfr, Qew, Qea, Qek, Qei, Qef, Qdc, Qhm, Qgl, Qas, Qgr, Qgq, Qgv, Qdl, Qhk, Qhi, Qhh, Qcv, Qco, Qcs, Bool.not_false, if_true, if_false, List.drop_zero, List.drop_succ_cons, List.length_cons, List.length_nil, Nat.add_zero, Nat.zero_add, Bool.and_true, Bool.false_eq_true, List.nil_append, List.cons_append, Nat.reduceAdd, oLoad_ptr, oStore_ptr, le_s, Nat.le_refl, Nat.zero_le, or_true, and_self, h0, h1, h2, h34, hf, ref03_reader_quoted_j2_eq, hp, ws, rfSet]
        | true =>
          rw [h1, h2] at hq
          have h3 : Rd.headIs (S.drop a) 34 = true := by
            rw [← h34]; simpa using hq
          rw [h3] at h34 ⊢
          simp (maxDischargeDepth := 9) only [Qah, Qag, Qab, Qbd, Qcl, Qfp, Qfu, Qfr, Qew, Qea, Qek, Qei, Qef, Qdc, Qhm, Qgl, Qas, Qgr, Qgq, Qgv, Qdl, Qhk, Qhi, Qhh, Qcv, Bool.not_true, if_true, List.drop_zero, List.drop_succ_cons, List.length_cons, List.length_nil, Nat.add_zero, Nat.zero_add, Bool.and_true, List.nil_append, List.cons_append, Nat.reduceAdd, oLoad_ptr, oStore_ptr, le_s, Nat.le_refl, Nat.zero_le, or_true, and_self, h0, h1, h2, h34, hs, ref03_reader_quoted_j2_eq, hp, ws, rfSet]
    cases r with
    | nil =>
      rw [stop (by rw [hd0]; rfl), hd0, List.takeWhile_nil, List.append_nil]
      rfl
    | cons c r =>
      cases hcq : Rd.isQuot c with
      | false =>
        rw [stop (by rw [hd0]; exact hcq), hd0]
        simp [List.takeWhile_cons, List.dropWhile_cons, hcq]
      | true =>
        obtain ⟨g1, g2, g3⟩ := drop_cons hd0
        rw [hd0] at hq h0
        rw [show hdP Rd.isQuot (c :: r) = true from hcq] at hq
        have h1 : decide (32 ≤ hd (c :: r)) = true := by revert hq; cases decide (32 ≤ hd (c :: r)) <;> simp
        have h2 : decide (hd (c :: r) < 127) = true := by revert hq; rw [h1]; cases decide (hd (c :: r) < 127) <;> simp
        have h3 : decide (hd (c :: r) = 34) = false := by revert hq; rw [h1, h2]; cases decide (hd (c :: r) = 34) <;> simp
        have ws := wrap_succ (show a < 4611686018427387904 by omega)
        have sl := oSliceStr_mid (s := S) (k := .i64) (l := .i64) (a := a) (b := a + 1) (by omega) (by omega)
        rw [mid_one hd0] at sl
        have cat : oBin .add 6 (.str acc) (.str [c]) = some (.str (acc ++ [c])) := oBin_cat _ _ _ (by simp at hal ⊢; omega)
        have ih := r_quoted_l hl (base := H.length) r (a := a + 1) (acc := acc ++ [c]) (H := rfSet H p S (a + 1) 0) (rf_s hp) (by simp) g2 (by omega) (by simp at hal ⊢; omega)
        simp only [rfSet, Qcs] at ih
        rw [ref03_reader_quoted_l1_eq]
        simp (maxDischargeDepth := 9) only [Qah, Qag, Qab, Qbe, Qcl, Qfp, Qfu, Qfr, Qew, Qea, Qek, Qei, Qef, Qdc, Qhm, Qas, Qgr, Qgq, Qgv, Qdl, Qhk, Qhi, Qhh, Bool.not_false, if_true, List.drop_zero, List.drop_succ_cons, List.length_cons, List.length_nil, Nat.add_zero, Nat.zero_add, Bool.and_true, List.nil_append, List.cons_append, Nat.reduceAdd, oLoad_ptr, oStore_ptr, le_s, Nat.le_refl, Nat.zero_le, or_true, and_self, h0, h1, h2, h3, hs, hp, ws, sl, cat, ih]
        rw [List.takeWhile_cons, List.dropWhile_cons, if_pos hcq, if_pos hcq]
        simp only [List.append_assoc, List.cons_append, List.nil_append, List.length_cons, rfSet]
        rw [show a + 1 + (List.takeWhile Rd.isQuot r).length + 1 = a + ((List.takeWhile Rd.isQuot r).length + 1) + 1 by omega]

theorem r_quoted {p : Nat} {S : List UInt8} {a : Nat} {H : Heap} (hs : RfAt H p S a 0) (hl : S.length < 60000) (ha : a < S.length) :
    ∃ x a' e', E n_ref03_reader_quoted [.ptr p 0 0] H = some (.ret (.str x), rfSet H p S a' e') ∧ a' ≤ S.length + 2 ∧ Rel S (Rd.quoted (S.drop a)) x a' e' ∧ x.length ≤ S.length := by
  have hp := hget_lt hs
  have hlp := r_quoted_l (H := rfSet H p S (a + 1) 0) hl (base := H.length) (S.drop (a + 1)) (a := a + 1) (acc := []) (rf_s hp) (by simp) rfl (by omega) (by simp; omega)
  simp only [rfSet, Qcs, List.nil_append] at hlp
  have htl := takeWhile_le Rd.isQuot (S.drop (a + 1))
  simp only [List.length_drop] at htl
  refine ⟨(S.drop (a + 1)).takeWhile Rd.isQuot, a + 1 + ((S.drop (a + 1)).takeWhile Rd.isQuot).length + 1, if Rd.headIs ((S.drop (a + 1)).dropWhile Rd.isQuot) 34 then 0 else 20, ?_, by omega, ?_, by omega⟩
  · rw [ref03_reader_quoted_E, ref03_reader_quoted_eq]
    simp (maxDischargeDepth := 9) only [Qah, Qag, Qfr, Qew, Qea, Qdc, Qhm, Qas, Qgr, Qgq, Qgv, Qdl, Qhk, Qhi, Qhh, if_true, List.drop_zero, List.drop_succ_cons, List.length_cons, List.length_nil, Nat.zero_add, Bool.and_true, List.nil_append, List.cons_append, Nat.reduceAdd, oLoad_ptr, oStore_ptr, le_s, Nat.le_refl, Nat.zero_le, or_true, and_self, hs, hp, wrap_succ (show a < 4611686018427387904 by omega), hlp]
  · unfold Rd.quoted
    have e1 : (S.drop a).drop 1 = S.drop (a + 1) := by rw [List.drop_drop]
    rw [e1]
    cases hh : Rd.headIs ((S.drop (a + 1)).dropWhile Rd.isQuot) 34 with
    | false => exact ⟨by simp, by omega⟩
    | true =>
      refine ⟨rfl, ?_, ?_, by simp⟩
      · rw [← drop_take_while, List.drop_drop, List.drop_drop]
        congr 1
      · have := headIs_len hh
        rw [← drop_take_while, List.drop_drop, List.length_drop] at this
        omega

def textF (fold : Bool) (s : List UInt8) : Rd.Res Rd.Expr := (Rd.quoted s).bind fun t s' => .ok (if fold then Rd.fold t else Rd.exact t) s'

/-- A text whose letters are alike: the loop. -/
theorem r_text_l1 {H : Heap} {t : List UInt8} (hl : t.length < 100000) : ∀ (r q : List UInt8), q ++ r = t →
    ref03_reader_text_l1 H.length (.bool true) (.ptr H.length 0 0) (.str t) (.ptr (H.length + 1) 0 0) (.int .i64 q.length) (.var [.int .i64 5, .str (Rd.small q), .nils, .int .i64 0, .int .i64 0, .nils] :: .var zE :: H) = some (.ret (encE (Rd.fold t)), H)
  | [], q, hq => by
    obtain rfl : q = t := by simpa using hq
    have n1 : ¬ ((q.length : Int) < (q.length : Int)) := by omega
    rw [ref03_reader_text_l1_eq]
    simp (maxDischargeDepth := 9) only [Qah, Qag, Qbd, Qci, Qfp, Qft, Qew, Qfx, Qfg, Qea, Qei, Qda, Qdc, Qhm, Qas, Qao, Qgr, Qgq, Qgv, Qhe, Qhb, Qdl, Qdu, Qdw, Qdh, Qdg, Qdf, Qhk, Qhi, Qcu, Qcn, Qcr, Qcm, Qcq, Qhl, Qge, Qgd, Qbf, Qca, Qcf, Qcd, Qbw, Qde, Qdd, decide_false, Bool.not_true, if_true, List.drop_zero, List.drop_succ_cons, List.length_cons, List.length_nil, Nat.add_zero, Nat.zero_add, Option.bind_some, Option.map_some, Bool.and_true, List.append_nil, List.nil_append, List.cons_append, Nat.reduceAdd, oLoad_ptr, oStore_ptr, List.drop_nil, le_s, Nat.le_refl, Nat.lt_add_one, Nat.zero_le, or_true, true_or, and_true, and_self, Nat.max_self, List.take_zero, List.take_succ_cons, n1, ref03_reader_text_j3_eq, zE]
    rfl
  | c :: r, q, hq => by
    have hlt : q.length + r.length + 1 = t.length := by rw [← hq]; simp; omega
    have n1 : (q.length : Int) < (t.length : Int) := by omega
    have hi : oIndexStr (.str t) (.int .i64 q.length) = some (.int .u8 c.toNat) := oIndexStr_at (by omega) (by rw [Int.toNat_natCast, ← hq]; simp)
    have tx : ∀ H' : Heap, oText H' (.vs [.int .u8 (Rd.smallB c).toNat]) = some (.str [Rd.smallB c]) := by
      intro H'; rw [oText_eq]; simp [rText, slCells, allLen, flat, bytesOf]
    have cat : oBin .add 6 (.str (Rd.small q)) (.str [Rd.smallB c]) = some (.str (Rd.small (q ++ [c]))) := by
      rw [oBin_cat _ _ _ (by simp [Rd.small]; omega)]; simp [Rd.small]
    have ih := r_text_l1 (H := H) hl r (q ++ [c]) (by rw [← hq]; simp)
    rw [List.length_append, List.length_singleton] at ih
    rw [ref03_reader_text_l1_eq]
    simp (maxDischargeDepth := 9) only [Qah, Qag, Qab, Qbe, Qbd, Qcl, Qci, Qhg, Qgp, Qfp, Qfu, Qft, Qew, Qfx, Qfg, Qea, Qei, Qdc, Qhm, Qas, Qbb, Qgr, Qgq, Qgv, Qhe, Qdl, Qdu, Qhk, Qhi, Qhh, Qcm, Qcq, Qfi, decide_true, Bool.not_true, if_true, List.drop_zero, List.drop_succ_cons, List.length_cons, List.length_nil, Nat.add_zero, Nat.zero_add, Bool.and_true, List.nil_append, List.cons_append, Nat.reduceAdd, oLoad_ptr, oStore_ptr, le_s, Nat.le_refl, Nat.zero_le, or_true, and_self, n1, hi, r_lower, tx, cat, wrap_succ (show q.length < 4611686018427387904 by omega), ih]
theorem r_text_l2 {H : Heap} {t : List UInt8} (hl : t.length < 100000) : ∀ (r q : List UInt8) (ver : Nat), q ++ r = t →
    ref03_reader_text_l2 H.length (.ptr H.length 0 0) (.str t) (.ptr (H.length + 1) 0 0) (.int .i64 q.length)
      (.row ver 1 false (intsV (q.map fun c => (c.toNat : Int))) :: .var [.int .i64 6, .str [], .rs (H.length + 1 + 1) ver 1 0 q.length, .int .i64 0, .int .i64 0, .nils] :: .var zE :: H) = some (.ret (encE (.mk 6 [] (t.map fun c => (c.toNat : Int)) 0 0 [])), H)
  | [], q, ver, hq => by
    obtain rfl : q = t := by simpa using hq
    have n1 : ¬ ((q.length : Int) < (q.length : Int)) := by omega
    have hf : ∀ H' : Heap, hget H' (H.length + 1 + 1) = some (.row ver 1 false (intsV (q.map fun c => (c.toNat : Int)))) → frz H' H.length 11 (.rs (H.length + 1 + 1) ver 1 0 q.length) = some (encI (q.map fun c => (c.toNat : Int))) := fun H' hh => by
      have := frz_ints (n := 9) (base := H.length) hh (by omega)
      rwa [List.length_map] at this
    rw [ref03_reader_text_l2_eq]
    simp (maxDischargeDepth := 9) only [Qah, Qag, Qbd, Qew, Qfg, Qea, Qei, Qda, Qdc, Qhm, Qao, Qgr, Qgq, Qgv, Qhe, Qhb, Qhd, Qdl, Qdu, Qdw, Qdh, Qdg, Qdf, Qhk, Qhi, Qcu, Qcn, Qcr, Qcm, Qcq, Qhl, Qge, Qgd, Qbf, Qca, Qcf, Qcd, Qbw, Qde, Qdd, Qbr, decide_false, if_true, List.drop_zero, List.drop_succ_cons, List.length_cons, List.length_nil, Nat.zero_add, Option.bind_some, Option.map_some, Bool.and_true, List.append_nil, Nat.reduceAdd, oLoad_ptr, oStore_ptr, List.drop_nil, lt_s, le_s, Nat.le_refl, Nat.lt_add_one, Nat.zero_le, true_or, and_true, and_self, Nat.max_self, List.take_zero, List.take_succ_cons, n1, ref03_reader_text_j3_eq, zE, hf]
    rfl
  | c :: r, q, ver, hq => by
    have hlt : q.length + r.length + 1 = t.length := by rw [← hq]; simp; omega
    have n1 : (q.length : Int) < (t.length : Int) := by omega
    have hi : oIndexStr (.str t) (.int .i64 q.length) = some (.int .u8 c.toNat) := oIndexStr_at (by omega) (by rw [Int.toNat_natCast, ← hq]; simp)
    have w : IntKind.i64.wrap (c.toNat : Int) = c.toNat := wrap_i64 (by omega) (by have := c.toNat_lt; omega)
    have ih := r_text_l2 (H := H) hl r (q ++ [c]) (ver + 1) (by rw [← hq]; simp)
    rw [List.length_append, List.length_singleton, List.map_append] at ih
    have ha : ∀ H' : Heap, hget H' (H.length + 1 + 1) = some (.row ver 1 false (intsV (q.map fun c => (c.toNat : Int)))) → oAppend H.length 1 8 false (.rs (H.length + 1 + 1) ver 1 0 q.length) (.vs [.int .i64 c.toNat]) H' =
        some (.rs (H.length + 1 + 1) (ver + 1) 1 0 (q.length + 1), hset H' (H.length + 1 + 1) (.row (ver + 1) 1 false (intsV ((q.map fun c => (c.toNat : Int)) ++ [(c.toNat : Int)])))) :=
      fun H' hg => append_int hg (by simp) (by simp; omega)
    simp only [List.map_cons, List.map_nil] at ih
    rw [ref03_reader_text_l2_eq]
    simp (maxDischargeDepth := 9) only [Qah, Qag, Qbe, Qew, Qfb, Qfg, Qea, Qei, Qdc, Qhm, Qba, Qgr, Qgq, Qhd, Qdt, Qhk, Qhi, Qhh, Qcn, Qcr, Qcm, Qcq, Qfi, decide_true, if_true, List.drop_zero, List.drop_succ_cons, List.length_cons, List.length_nil, Nat.zero_add, Bool.and_true, List.nil_append, List.cons_append, Nat.reduceAdd, Nat.reduceLeDiff, oLoad_ptr, oStore_ptr, le_s, Nat.le_refl, Nat.lt_add_one, true_or, and_self, n1, hi, w, ha, wrap_succ (show q.length < 4611686018427387904 by omega), ih]
theorem r_text (fold : Bool) : RfC0 n_ref03_reader_text [.bool fold] encE 2 (textF fold) := by
  intro p S a H hs hl ha
  have hp := hget_lt hs
  obtain ⟨t, a', e', i1, i2, i3, i4⟩ := r_quoted (H := .var zE :: H) (rf_o hs) hl ha
  have htl : t.length < 100000 := by omega
  have res : Rel S (textF fold (S.drop a)) (if fold then Rd.fold t else Rd.exact t) a' e' := by
    unfold textF
    cases hval : Rd.quoted (S.drop a) with
    | err c s => rw [hval] at i3; exact i3
    | ok y s =>
      rw [hval] at i3
      obtain ⟨j1, j2, j3, j4⟩ := i3
      subst j1
      exact ⟨rfl, j2, j3, j4⟩
  refine ⟨_, a', e', ?_, i2, res⟩
  simp (maxDischargeDepth := 9) only [Qcr, hp, zE] at i1
  rw [ref03_reader_text_E, ref03_reader_text_eq]
  cases fold with
  | true =>
    have l1 := r_text_l1 (H := rfSet H p S a' e') htl t [] rfl
    simp (maxDischargeDepth := 9) only [Qam, List.length_nil, hset_length, zE, Rd.small, List.map_nil] at l1
    simp (maxDischargeDepth := 9) only [Qah, Qag, Qab, Qas, Qao, Qgr, Qgq, Qgv, Qhe, Qhb, Qdl, Qdu, Qdr, Qdh, Qdg, Qdf, Qhk, Qhi, Qcm, Qcq, Qfy, Qeq, Qep, Qai, if_true, List.drop_zero, List.drop_succ_cons, List.length_cons, List.length_nil, Nat.zero_add, Bool.and_true, List.append_nil, List.nil_append, List.cons_append, Nat.reduceAdd, hset_length, oStore_ptr, List.drop_nil, le_s, Nat.le_refl, Nat.zero_le, or_true, and_self, Nat.max_self, i1, List.getElem?_cons_zero, List.getElem?_cons_succ, l1]
  | false =>
    cases t with
    | nil =>
      simp (maxDischargeDepth := 9) only [Qah, Qag, Qab, Qas, Qao, Qgr, Qgq, Qgv, Qhe, Qhb, Qdl, Qdu, Qdr, Qdh, Qdg, Qdf, Qhk, Qhi, Qcm, Qcq, Qfy, Qeq, Qep, Qai, if_true, if_false, List.drop_zero, List.drop_succ_cons, List.length_cons, List.length_nil, Nat.zero_add, Bool.and_true, Bool.false_eq_true, List.append_nil, List.nil_append, List.cons_append, Nat.reduceAdd, hset_length, oStore_ptr, List.drop_nil, le_s, Nat.le_refl, Nat.zero_le, or_true, and_self, Nat.max_self, i1, List.getElem?_cons_zero, List.getElem?_cons_succ]
      rw [ref03_reader_text_l1_eq]
      have n1 : ¬ (0 : Int) < 0 := by omega
      simp (maxDischargeDepth := 9) only [Qah, Qag, Qbd, Qcl, Qci, Qfp, Qfu, Qft, Qew, Qfx, Qfg, Qea, Qei, Qen, Qdc, Qhm, Qas, Qao, Qgr, Qgq, Qgv, Qhe, Qhb, Qdl, Qdu, Qdw, Qdh, Qdg, Qdf, Qhk, Qhi, Qcv, Qam, Qcu, Qcn, Qcr, Qcm, Qcq, Qhl, Qge, Qgd, Qbf, Qca, Qcf, Qcd, Qbw, Qde, Qdd, decide_true, decide_false, Bool.not_true, Bool.not_false, if_true, List.drop_zero, List.drop_succ_cons, List.length_cons, List.length_nil, Nat.add_zero, Nat.zero_add, Option.bind_some, Option.map_some, Bool.and_true, List.append_nil, List.nil_append, List.cons_append, Nat.reduceAdd, Int.reduceAdd, hset_length, oLoad_ptr, oStore_ptr, List.drop_nil, le_s, Nat.le_refl, Nat.lt_add_one, Nat.zero_le, or_true, true_or, and_true, and_self, Nat.max_self, List.take_zero, List.take_succ_cons, n1, ref03_reader_text_j3_eq]
      rfl
    | cons c r =>
      have l2 := r_text_l2 (H := rfSet H p S a' e') htl r [c] 0 rfl
      simp (maxDischargeDepth := 9) only [Qam, List.length_cons, List.length_nil, Nat.zero_add, hset_length, zE, List.map_cons, List.map_nil] at l2
      have n1 : (0 : Int) < ((r.length + 1 : Nat) : Int) := by omega
      have w : IntKind.i64.wrap (c.toNat : Int) = c.toNat := wrap_i64 (by omega) (by have := c.toNat_lt; omega)
      have w2 : IntKind.i64.wrap 1 = 1 := by decide
      simp (maxDischargeDepth := 9) only [Qah, Qag, Qab, Qas, Qao, Qgr, Qgq, Qgv, Qhe, Qhb, Qdl, Qdu, Qdr, Qdh, Qdg, Qdf, Qhk, Qhi, Qcm, Qcq, Qfy, Qeq, Qep, Qai, if_true, if_false, List.drop_zero, List.drop_succ_cons, List.length_cons, List.length_nil, Nat.zero_add, Bool.and_true, Bool.false_eq_true, List.append_nil, List.nil_append, List.cons_append, Nat.reduceAdd, hset_length, oStore_ptr, List.drop_nil, le_s, Nat.le_refl, Nat.zero_le, or_true, and_self, Nat.max_self, i1, List.getElem?_cons_zero, List.getElem?_cons_succ]
      rw [ref03_reader_text_l1_eq]
      simp (maxDischargeDepth := 9) only [Qah, Qag, Qbe, Qbd, Qcl, Qfp, Qfu, Qew, Qfx, Qfg, Qea, Qei, Qen, Qdc, Qhm, Qfa, Qas, Qgr, Qgq, Qgv, Qdl, Qhk, Qhi, Qcm, Qcq, decide_true, decide_false, Bool.not_false, if_true, List.drop_zero, List.drop_succ_cons, List.length_cons, List.length_nil, Nat.add_zero, Nat.zero_add, reduceCtorEq, Bool.and_true, List.nil_append, List.cons_append, Nat.reduceAdd, Int.reduceAdd, hset_length, oLoad_ptr, oStore_ptr, le_s, Nat.le_refl, Nat.zero_le, or_true, and_self, n1]
      rw [ref03_reader_text_l2_eq]
      simp (maxDischargeDepth := 9) only [Qah, Qag, Qbe, Qew, Qfb, Qfg, Qea, Qei, Qdc, Qhm, Qfa, Qba, Qgr, Qgq, Qhd, Qdt, Qhk, Qhi, Qhh, Qcn, Qcr, Qcm, Qcq, Qfi, decide_true, if_true, List.drop_zero, List.drop_succ_cons, List.length_cons, List.length_nil, Nat.zero_add, Bool.and_true, List.nil_append, List.cons_append, Nat.reduceAdd, hset_length, Nat.reduceLeDiff, oLoad_ptr, oStore_ptr, le_s, Nat.le_refl, Nat.lt_add_one, true_or, and_self, n1, w, append_int_nil, w2, Int.zero_add, l2]
      simp [Rd.exact]
end Go.Proofs.YthcjjicplodhjaaDoor
end

section
/- The document's reader, function by function: what stands behind a percent sign. -/
namespace Go.Proofs.YthcjjicplodhjaaDoor
open Go Go.Ev
set_option linter.unusedVariables false
set_option linter.unusedSimpArgs false

theorem frz_z2 (H' : Heap) {H : Heap} {l : List Int} {ver : Nat} (hg : hget H' (H.length + 1) = some (.row ver 1 false (intsV l))) : frz H' H.length 11 (.rs (H.length + 1) ver 1 0 l.length) = some (encI l) :=
  frz_ints (n := 9) (base := H.length) hg (by omega)

theorem r_value_4 {H : Heap} {l : List Int} {k : Int} {ver : Nat} : ref03_reader_value_j4 H.length (.ptr H.length 0 0) (.ptr (H.length + 1 + 1) 0 0) (z2 H l k ver) = some (.ret (encE (.mk k [] l 0 0 [])), H) := by
  rw [ref03_reader_value_j4_eq]
  have hf := fun H' hg => frz_z2 (H := H) (l := l) (ver := ver) H' hg
  simp (maxDischargeDepth := 9) only [Qah, Qag, Qda, Qdc, Qao, Qgr, Qgq, Qgv, Qhe, Qhb, Qhd, Qdl, Qdu, Qdw, Qdh, Qdg, Qdf, Qhk, Qhi, Qcu, Qcn, Qcr, Qcm, Qcq, Qhl, Qge, Qgd, Qbf, Qca, Qcf, Qcd, Qbw, Qde, Qdd, Qbr, if_true, List.drop_zero, List.drop_succ_cons, List.length_cons, List.length_nil, Nat.zero_add, Option.bind_some, Option.map_some, Bool.and_true, List.append_nil, Nat.reduceAdd, oLoad_ptr, oStore_ptr, List.drop_nil, lt_s, le_s, Nat.le_refl, Nat.lt_add_one, Nat.zero_le, true_or, and_true, and_self, Nat.max_self, List.take_zero, List.take_succ_cons, z2, zE, hf]
  rfl

/-- Numbers with points between. -/
theorem r_value_l3 {p b : Nat} (hb : b ≤ 90) {S : List UInt8} (hl : S.length < 60000) : ∀ (n : Nat) (l : List Int) (ver : Nat) {a : Nat} {e : Int} {H : Heap}, RfAt H p S a e → a ≤ S.length + 10000 → (e = 0 → a ≤ S.length) → (e = 0 → (S.drop a).length ≤ n) → l.length + n < 900000 →
    ∃ x a' e', ref03_reader_value_l3 H.length (.ptr p 0 0) (.ptr H.length 0 0) (.int .i64 b) (.ptr (H.length + 1 + 1) 0 0) (z2 H l 6 ver) = some (.ret (encE x), rfSet H p S a' e') ∧ (a' ≤ S.length ∨ a' ≤ a) ∧ Rel S (startR (Rd.valuesL b n l) S a e) x a' e'
  | n, l, ver, a, e, H, hs, ha, hae, hn, hln => by
    have hp := hget_lt hs
    have h0 := r_at (H := z2 H l 6 ver) (p := p) (rf_o (rf_o (rf_o hs))) hl 0 (by omega)
    have h46 := hd_eq (S.drop a) 46
    simp only [Qam, Nat.add_zero, z2, zE] at h0 h46
    have j4 := r_value_4 (H := H) (l := l) (k := 6) (ver := ver)
    simp only [z2, zE] at j4
    have n7 : ¬ (6 : Int) = 7 := by omega
    have stop : Rd.headIs (S.drop a) 46 = false ∨ e ≠ 0 → ref03_reader_value_l3 H.length (.ptr p 0 0) (.ptr H.length 0 0) (.int .i64 b) (.ptr (H.length + 1 + 1) 0 0) (z2 H l 6 ver) = some (.ret (encE (.mk 6 [] l 0 0 [])), H) := by
      intro h
      rw [ref03_reader_value_l3_eq]
      simp only [z2, zE]
      cases hh : Rd.headIs (S.drop a) 46 with
      | false =>
        rw [hh] at h46
        simp (maxDischargeDepth := 9) only [Qah, Qab, Qbd, Qcl, Qci, Qfp, Qfu, Qft, Qfr, Qew, Qee, Qdc, Qhm, Qcm, decide_true, decide_false, List.drop_zero, List.length_cons, Nat.add_zero, Nat.zero_add, oLoad_ptr, oStore_ptr, h0, h46, n7, j4]
      | true =>
        rw [hh] at h46 h
        have he : e ≠ 0 := by simpa using h
        simp (maxDischargeDepth := 9) only [Qah, Qag, Qab, Qbd, Qcl, Qci, Qfp, Qfu, Qft, Qfr, Qew, Qea, Qee, Qdc, Qhm, Qas, Qgr, Qgq, Qgv, Qdl, Qhk, Qhi, Qhh, Qcn, Qcr, Qcm, decide_true, decide_false, if_true, List.drop_zero, List.drop_succ_cons, List.length_cons, List.length_nil, Nat.add_zero, Nat.zero_add, Bool.and_true, List.nil_append, List.cons_append, Nat.reduceAdd, hset_length, oLoad_ptr, oStore_ptr, lt_s, le_s, Nat.le_refl, Nat.zero_le, or_true, and_self, hp, hs, h0, h46, n7, j4, he]
    by_cases he : e = 0
    · subst he
      have ha0 := hae rfl
      cases hh : Rd.headIs (S.drop a) 46 with
      | false =>
        refine ⟨_, a, 0, by rw [stop (.inl hh), rfSet, hset_self hs], .inl ha0, ?_⟩
        have : Rd.valuesL b n l (S.drop a) = .ok (.mk 6 [] l 0 0 []) (S.drop a) := by cases n <;> simp [Rd.valuesL, hh]
        unfold startR
        rw [if_pos rfl, this]
        exact ⟨rfl, rfl, ha0, rfl⟩
      | true =>
        rw [hh] at h46
        have hlen := headIs_len hh
        have hn0 := hn rfl
        obtain ⟨m, rfl⟩ : ∃ m, n = m + 1 := ⟨n - 1, by omega⟩
        simp only [List.length_drop] at hlen hn0
        obtain ⟨v, a1, e1, i1, i2, i3⟩ := r_need hb (H := z2 (rfSet H p S (a + 1) 0) l 6 ver) (p := p) (S := S) (a := a + 1) (e := 0) (B := 0) (rf_o (rf_o (rf_o (rf_s hp)))) hl (by omega) (by omega) (fun _ => by omega)
        obtain ⟨x, a', e', k1, k2, k3⟩ := r_value_l3 hb hl m (l ++ [v]) (ver + 1) (a := a1) (e := e1) (H := rfSet H p S a1 e1) (rf_s hp) (by omega) (fun h => by
            unfold startR at i3; rw [if_pos rfl] at i3
            cases hv : needF b (S.drop (a + 1)) with
            | ok y s => rw [hv] at i3; exact i3.2.2.1
            | err c s => rw [hv] at i3; have := i3.1; have := i3.2; omega) (fun h => by
            unfold startR at i3; rw [if_pos rfl] at i3
            cases hv : needF b (S.drop (a + 1)) with
            | ok y s =>
              rw [hv] at i3
              have hvl : (needF b (S.drop (a + 1))).le (S.drop (a + 1)).length := Rd.Res.le_bind (Rd.value_le b _) fun _ _ h => h
              have := Rd.Res.le_ok hvl hv
              rw [i3.2.1]
              simp only [List.length_drop] at this
              omega
            | err c s => rw [hv] at i3; have := i3.1; have := i3.2; omega) (by simp; omega)
        refine ⟨x, a', e', ?_, by omega, ?_⟩
        · have ha := fun (H' : Heap) hg => append_int (base := H.length) (i := H.length + 1) (ver := ver) (H := H') (l := l) (x := v) (n := l.length) hg rfl (by omega)
          simp (maxDischargeDepth := 9) only [Qcr, Qcs, List.length_cons, List.length_nil, Nat.zero_add, hset_length, lt_s, hp, z2, zE, List.length_append] at i1 k1
          rw [ref03_reader_value_l3_eq]
          simp (maxDischargeDepth := 9) only [Qah, Qag, Qab, Qbe, Qcl, Qfp, Qfu, Qfr, Qew, Qea, Qee, Qdc, Qhm, Qas, Qgr, Qgq, Qgv, Qdl, Qhk, Qhi, Qhh, Qcn, Qcr, Qcm, decide_true, if_true, List.drop_zero, List.drop_succ_cons, List.length_cons, List.length_nil, Nat.add_zero, Nat.zero_add, Bool.and_true, List.nil_append, List.cons_append, Nat.reduceAdd, hset_length, oLoad_ptr, oStore_ptr, lt_s, le_s, Nat.le_refl, Nat.zero_le, or_true, and_self, hp, hs, z2, zE, h0, h46, wrap_succ (show a < 4611686018427387904 by omega)]
          simp (maxDischargeDepth := 9) only [Qah, Qag, Qab, Qhg, Qgp, Qdc, Qhm, Qba, Qgr, Qgq, Qhd, Qdt, Qhk, Qhi, Qhh, Qcn, Qcr, Qcm, Qcq, Qfi, if_true, List.drop_zero, List.drop_succ_cons, List.length_cons, List.length_nil, Nat.zero_add, Bool.and_true, List.nil_append, List.cons_append, Nat.reduceAdd, hset_length, le_s, Nat.le_refl, Nat.lt_add_one, or_true, and_self, hp, i1, intV, ha, k1]
        · unfold startR at i3 k3 ⊢
          rw [if_pos rfl] at i3 ⊢
          rw [Rd.valuesL, if_pos hh]
          have e1' : (S.drop a).drop 1 = S.drop (a + 1) := by rw [List.drop_drop]
          rw [e1']
          unfold needF at i3
          cases hv : Rd.value b (S.drop (a + 1)) with
          | err c s =>
            rw [hv] at i3
            obtain ⟨q1, q2⟩ := i3
            rw [if_neg (by rw [q1]; exact q2)] at k3
            exact ⟨by rw [k3.1, q1], q2⟩
          | ok y s =>
            rw [hv] at i3
            obtain ⟨q1, q2, q3, q4⟩ := i3
            rw [if_pos q4, q2] at k3
            subst q1
            exact k3
    · refine ⟨_, a, e, by rw [stop (.inr he), rfSet, hset_self hs], .inr (Nat.le_refl _), ?_⟩
      unfold startR
      rw [if_neg he]
      exact ⟨rfl, he⟩
/-- A span. -/
theorem r_value_7 {p b : Nat} {S : List UInt8} {x y : Int} {ver a : Nat} {e : Int} {H : Heap} (hs : RfAt H p S a e) :
    ref03_reader_value_l3 H.length (.ptr p 0 0) (.ptr H.length 0 0) (.int .i64 b) (.ptr (H.length + 1 + 1) 0 0) (z2 H [x, y] 7 ver) = some (.ret (encE (.mk 7 [] [x, y] 0 0 [])), rfSet H p S a (if y < x ∧ e = 0 then 20 else e)) := by
  have hp := hget_lt hs
  have i0 : oIndexPtr 1 (.rs (H.length + 1) ver 1 0 2) (.int .i64 0) = some (.ptr (H.length + 1) ver 0) := oIndexPtr_rs (k := .i64) (j := 0) (by omega)
  have i1 : oIndexPtr 1 (.rs (H.length + 1) ver 1 0 2) (.int .i64 1) = some (.ptr (H.length + 1) ver 1) := oIndexPtr_rs (k := .i64) (j := 1) (by omega)
  have n6 : ¬ (7 : Int) = 6 := by omega
  rw [ref03_reader_value_l3_eq]
  by_cases h : y < x
  · have hf := r_fail (H := z2 H [x, y] 7 ver) (p := p) (rf_o (rf_o (rf_o hs))) 20
    have j4 := r_value_4 (H := rfSet H p S a (if e = 0 then 20 else e)) (l := [x, y]) (k := 7) (ver := ver)
    simp (maxDischargeDepth := 9) only [Qcr, List.length_cons, List.length_nil, Nat.zero_add, Nat.reduceAdd, hset_length, lt_s, hp, z2, zE, intsV, List.map_cons, List.map_nil] at hf j4
    simp (maxDischargeDepth := 9) only [Qah, Qab, Qbe, Qbd, Qcl, Qci, Qfp, Qfu, Qft, Qfr, Qew, Qee, Qeg, Qdc, Qdb, Qhm, Qcn, Qcm, decide_true, decide_false, List.drop_zero, List.drop_succ_cons, List.length_cons, List.length_nil, Nat.add_zero, Nat.zero_add, Nat.reduceAdd, oLoad_ptr, oStore_ptr, lt_s, Nat.lt_add_one, true_and, hp, z2, zE, intsV, List.map_cons, List.map_nil, n6, i0, i1, h, hf, j4]
  · have j4 := r_value_4 (H := H) (l := [x, y]) (k := 7) (ver := ver)
    simp (maxDischargeDepth := 9) only [List.length_cons, List.length_nil, Nat.zero_add, Nat.reduceAdd, z2, zE, intsV, List.map_cons, List.map_nil] at j4
    simp (maxDischargeDepth := 9) only [Qah, Qab, Qbd, Qcl, Qci, Qfp, Qfu, Qft, Qfr, Qew, Qee, Qeg, Qdc, Qdb, Qhm, Qcn, Qcm, decide_true, decide_false, if_false, List.drop_zero, List.drop_succ_cons, List.length_cons, List.length_nil, Nat.add_zero, Nat.zero_add, Nat.reduceAdd, oLoad_ptr, oStore_ptr, lt_s, Nat.lt_add_one, false_and, hp, z2, zE, intsV, List.map_cons, List.map_nil, n6, i0, i1, h, j4, rfSet, hset_self hs]

theorem r_value_20 {p : Nat} {S : List UInt8} {a : Nat} {H : Heap} (hs : RfAt H p S a 0) (ha : a < 1000000) :
    ref03_reader_value_j2 H.length (.ptr p 0 0) (.ptr H.length 0 0) (.int .i64 0) (.var zE :: H) = some (.ret (encE .zero), rfSet H p S (a + 1) 20) := by
  have hp := hget_lt hs
  have hf := r_fail (H := .var zE :: rfSet H p S (a + 1) 0) (p := p) (rf_o (rf_s hp)) 20
  simp (maxDischargeDepth := 9) only [Qcr, Qcs, if_true, hset_length, hp, zE] at hf
  rw [ref03_reader_value_j2_eq]
  simp (maxDischargeDepth := 9) only [Qah, Qag, Qab, Qbe, Qfr, Qew, Qea, Qee, Qdc, Qhm, Qas, Qao, Qgr, Qgq, Qgv, Qhe, Qhb, Qdl, Qdu, Qdr, Qdw, Qdh, Qdg, Qdf, Qhk, Qhi, Qhh, Qcv, Qcu, Qcr, Qcm, Qcq, Qfy, Qhl, Qeq, Qep, Qge, Qgd, Qbf, Qca, Qcf, Qcd, Qbw, Qde, Qdd, decide_true, if_true, List.drop_zero, List.drop_succ_cons, List.length_cons, List.length_nil, Nat.add_zero, Nat.zero_add, Option.bind_some, Option.map_some, Bool.and_true, List.append_nil, List.nil_append, List.cons_append, Nat.reduceAdd, hset_length, oLoad_ptr, oStore_ptr, List.drop_nil, le_s, Nat.le_refl, Nat.zero_le, or_true, and_true, and_self, Nat.max_self, List.take_zero, List.take_succ_cons, hp, zE, rf_o hs, hs, wrap_succ (show a < 4611686018427387904 by omega), hf]
  rfl

theorem r_value_2 {p b : Nat} (hb : b ≤ 90) (hb0 : 0 < b) {S : List UInt8} {a : Nat} {H : Heap} (hs : RfAt H p S a 0) (hl : S.length < 60000) (ha : a < S.length) :
    ∃ x a' e', ref03_reader_value_j2 H.length (.ptr p 0 0) (.ptr H.length 0 0) (.int .i64 b) (.var zE :: H) = some (.ret (encE x), rfSet H p S a' e') ∧ a' ≤ S.length ∧ Rel S (Rd.values b (S.drop (a + 1))) x a' e' := by
  have hp := hget_lt hs
  obtain ⟨v, a1, e1, i1, i2, i3⟩ := r_need hb (H := .var zE :: rfSet H p S (a + 1) 0) (p := p) (S := S) (a := a + 1) (e := 0) (B := 0) (rf_o (rf_s hp)) hl (by omega) (by omega) (fun _ => by omega)
  unfold startR at i3
  rw [if_pos rfl] at i3
  have nb : ¬ ((b : Int) = 0) := by omega
  have hz : ∀ H' : Heap, oRow 1 1 false [.int .i64 0] H' [(0, .int .i64 v)] = some (.rs H'.length 0 1 0 1, .row 0 1 false (intsV [v]) :: H') := by
    intro H'
    rw [oRow_1 (sz := 1) (x := .int .i64 v) rfl rfl rfl (by omega)]; simp [intsV]
  have h0 := r_at (H := z2 (rfSet H p S a1 e1) [v] 6 0) (p := p) (rf_o (rf_o (rf_o (rf_s hp)))) hl 0 (by omega)
  have h45 := hd_eq (S.drop a1) 45
  simp (maxDischargeDepth := 9) only [Qam, Qcr, Qcs, List.length_cons, List.length_nil, Nat.add_zero, Nat.zero_add, hset_length, hp, z2, zE] at i1 h0 h45
  have e1' : ∀ k, needF b (S.drop (a + 1)) = k → (∀ c s, k = .err c s → e1 = c ∧ c ≠ 0 ∧ Rd.value b (S.drop (a + 1)) = .err c s) ∧ (∀ y s, k = .ok y s → v = y ∧ S.drop a1 = s ∧ a1 ≤ S.length ∧ e1 = 0 ∧ ∃ n : Nat, y = n ∧ Rd.value b (S.drop (a + 1)) = .ok n s) := by
    intro k hk
    rw [hk] at i3
    unfold needF at hk
    constructor
    · intro c s hks
      subst hks
      refine ⟨i3.1, i3.2, ?_⟩
      cases hv : Rd.value b (S.drop (a + 1)) with
      | err c' s' => rw [hv] at hk; simpa [Rd.Res.bind] using hk
      | ok y s' => rw [hv] at hk; simp [Rd.Res.bind] at hk
    · intro y s hks
      subst hks
      refine ⟨i3.1, i3.2.1, i3.2.2.1, i3.2.2.2, ?_⟩
      cases hv : Rd.value b (S.drop (a + 1)) with
      | err c' s' => rw [hv] at hk; simp [Rd.Res.bind] at hk
      | ok n s' =>
        rw [hv] at hk
        simp only [Rd.Res.bind, Rd.Res.ok.injEq] at hk
        exact ⟨n, hk.1.symm, by rw [hk.2]⟩
  rw [ref03_reader_value_j2_eq]
  have start : ∀ X, (ref03_reader_value_j2 H.length (.ptr p 0 0) (.ptr H.length 0 0) (.int .i64 b) (.var zE :: H) = X) → True := fun _ _ => trivial
  clear start
  simp (maxDischargeDepth := 9) only [Qah, Qag, Qbd, Qfr, Qew, Qea, Qee, Qdc, Qhm, Qas, Qao, Qgr, Qgq, Qgv, Qhe, Qhb, Qdl, Qhk, Qhi, Qhh, Qcr, Qcm, Qcq, Qfy, Qeq, Qep, decide_false, if_true, List.drop_zero, List.drop_succ_cons, List.length_cons, List.length_nil, Nat.add_zero, Nat.zero_add, Bool.and_true, List.nil_append, List.cons_append, Nat.reduceAdd, oLoad_ptr, oStore_ptr, le_s, Nat.le_refl, Nat.zero_le, or_true, and_true, and_self, hp, hs, rf_o hs, zE, wrap_succ (show a < 4611686018427387904 by omega), nb]
  simp (maxDischargeDepth := 9) only [Qah, Qag, Qab, Qea, Qee, Qdc, Qhm, Qas, Qba, Qao, Qgr, Qgq, Qgv, Qhe, Qhb, Qhd, Qdl, Qdu, Qdr, Qdt, Qdh, Qdg, Qdf, Qhk, Qhi, Qhh, Qcn, Qcr, Qco, Qcm, Qcq, Qcs, Qeq, Qep, Qai, if_true, List.drop_zero, List.drop_succ_cons, List.length_cons, List.length_nil, Nat.zero_add, Bool.and_true, List.append_nil, List.nil_append, List.cons_append, Nat.reduceAdd, hset_length, List.drop_nil, lt_s, le_s, Nat.le_refl, Nat.zero_le, or_true, and_true, and_self, Nat.max_self, Nat.zero_max, Nat.max_zero, hp, i1, intV, hz, List.getElem?_cons_zero, List.getElem?_cons_succ, h0]
  cases h : Rd.headIs (S.drop a1) 45 with
  | false =>
    rw [h] at h45
    obtain ⟨x, a', e', k1, k2, k3⟩ := r_value_l3 hb hl (S.drop a1).length [v] 0 (a := a1) (e := e1) (H := rfSet H p S a1 e1) (rf_s hp) (by omega) (fun hh => by
        cases hv : needF b (S.drop (a + 1)) with
        | ok y s => exact ((e1' _ hv).2 y s rfl).2.2.1
        | err c s => have := (e1' _ hv).1 c s rfl; omega) (fun _ => Nat.le_refl _) (by simp; omega)
    refine ⟨x, a', e', ?_, by omega, ?_⟩
    · simp (maxDischargeDepth := 9) only [Qcs, List.length_cons, List.length_nil, Nat.zero_add, hset_length, hp, z2, zE] at k1
      simp (maxDischargeDepth := 9) only [Qbd, hp, h45, k1]
    · unfold startR at k3
      unfold Rd.values
      cases hv : needF b (S.drop (a + 1)) with
      | ok y s =>
        obtain ⟨q1, q2, q3, q4, n, q5, q6⟩ := (e1' _ hv).2 y s rfl
        rw [q6]
        rw [if_pos q4, q2] at k3
        rw [q2] at h
        simp only [Rd.Res.bind]
        rw [if_neg (by simp [h])]
        rw [q1, q5] at k3
        exact k3
      | err c s =>
        obtain ⟨q1, q2, q3⟩ := (e1' _ hv).1 c s rfl
        rw [q3]
        rw [if_neg (by omega)] at k3
        exact ⟨by rw [k3.1, q1], q2⟩
  | true =>
    rw [h] at h45
    have hlen := headIs_len h
    simp only [List.length_drop] at hlen
    obtain ⟨v2, a2, e2, m1, m2, m3⟩ := r_need hb (H := z2 (rfSet H p S (a1 + 1) e1) [v] 7 0) (p := p) (S := S) (a := a1 + 1) (e := e1) (B := 0) (rf_o (rf_o (rf_o (rf_s hp)))) hl (by omega) (by omega) (fun _ => by omega)
    have k1 := r_value_7 (b := b) (x := v) (y := v2) (ver := 1) (H := rfSet H p S a2 e2) (p := p) (rf_s hp)
    have ha := fun (H' : Heap) hg => append_int (base := H.length) (i := H.length + 1) (ver := 0) (H := H') (l := [v]) (x := v2) (n := 1) hg rfl (by simp)
    refine ⟨.mk 7 [] [v, v2] 0 0 [], a2, if v2 < v ∧ e2 = 0 then 20 else e2, ?_, by omega, ?_⟩
    · simp (maxDischargeDepth := 9) only [Qcr, Qcs, List.length_cons, List.length_nil, Nat.zero_add, Nat.reduceAdd, hset_length, lt_s, hp, z2, zE] at m1 k1
      simp (maxDischargeDepth := 9) only [Qbe, hp, h45, wrap_succ (show a1 < 4611686018427387904 by omega)]
      simp (maxDischargeDepth := 9) only [Qah, Qag, Qab, Qhg, Qgp, Qdc, Qhm, Qba, Qgr, Qgq, Qhd, Qdt, Qhk, Qhi, Qhh, Qcn, Qcr, Qcm, Qcq, Qfi, if_true, List.drop_zero, List.drop_succ_cons, List.length_cons, List.length_nil, Nat.zero_add, Bool.and_true, List.nil_append, List.cons_append, Nat.reduceAdd, hset_length, le_s, Nat.le_refl, Nat.lt_add_one, or_true, and_self, hp, m1, intV, ha, k1]
    · unfold startR at m3
      unfold Rd.values
      cases hv : needF b (S.drop (a + 1)) with
      | err c s =>
        obtain ⟨q1, q2, q3⟩ := (e1' _ hv).1 c s rfl
        rw [q3]
        rw [if_neg (by omega)] at m3
        exact ⟨by rw [if_neg (by intro hh; have := m3.1; omega), m3.1, q1], q2⟩
      | ok y s =>
        obtain ⟨q1, q2, q3, q4, n, q5, q6⟩ := (e1' _ hv).2 y s rfl
        rw [q6]
        rw [if_pos q4] at m3
        have hh : Rd.headIs s 45 = true := by rw [← q2]; exact h
        have hds : s.drop 1 = S.drop (a1 + 1) := by rw [← q2, List.drop_drop]
        simp only [Rd.Res.bind]
        rw [if_pos hh, hds]
        unfold needF at m3
        cases hv2 : Rd.value b (S.drop (a1 + 1)) with
        | err c2 s2 =>
          rw [hv2] at m3
          obtain ⟨w1, w2⟩ := m3
          exact ⟨by rw [if_neg (by omega), w1], w2⟩
        | ok n2 s2 =>
          rw [hv2] at m3
          obtain ⟨w1, w2, w3, w4⟩ := m3
          simp only
          by_cases hc : n ≤ n2
          · rw [if_pos hc, if_neg (by omega)]
            exact ⟨by rw [q1, q5, w1], w2, w3, w4⟩
          · rw [if_neg hc, if_pos ⟨by omega, w4⟩]
            exact ⟨rfl, by omega⟩
end Go.Proofs.YthcjjicplodhjaaDoor
end

section
/- The document's reader, function by function: what stands behind a percent sign, whole. -/
namespace Go.Proofs.YthcjjicplodhjaaDoor
open Go Go.Ev
set_option linter.unusedVariables false
set_option linter.unusedSimpArgs false

theorem or32_is : ∀ n : Nat, n < 256 → n ||| 32 = 98 ∨ n ||| 32 = 100 ∨ n ||| 32 = 120 ∨ n ||| 32 = 105 ∨ n ||| 32 = 115 → (97 ≤ n ∧ n ≤ 122) ∨ (65 ≤ n ∧ n ≤ 90) := by decide
theorem percent_bad (s : List UInt8) (h : s.length ≤ 1 ∨ (match s.drop 1 with | [] => True | c :: r => Rd.baseOf (c.toNat ||| 32) = 0 ∧ ¬ (Rd.headIs r 34 = true ∧ (c.toNat ||| 32 = 105 ∨ c.toNat ||| 32 = 115)))) : ∃ s', Rd.percent s = .err 20 s' := by
  unfold Rd.percent
  cases hd0 : s.drop 1 with
  | nil => exact ⟨_, rfl⟩
  | cons c r =>
    rw [hd0] at h
    have hl := congrArg List.length hd0
    simp at hl
    have h := h.resolve_left (by omega)
    simp only at h
    refine ⟨c :: r, ?_⟩
    simp only
    rw [if_neg]
    rintro ⟨_, h1 | h1⟩
    · omega
    · exact h.2 h1
theorem percent_base (s : List UInt8) (c : UInt8) (r : List UInt8) (hd0 : s.drop 1 = c :: r) (h : 0 < Rd.baseOf (c.toNat ||| 32)) : Rd.percent s = Rd.values (Rd.baseOf (c.toNat ||| 32)) r := by
  unfold Rd.percent
  rw [hd0]
  simp only
  have hL : Rd.isLetter c = true := by
    have : c.toNat ||| 32 = 98 ∨ c.toNat ||| 32 = 100 ∨ c.toNat ||| 32 = 120 := by
      revert h; unfold Rd.baseOf
      split
      · intro; omega
      · split
        · intro; omega
        · split
          · intro; omega
          · intro h; omega
    have := or32_is c.toNat c.toNat_lt (by omega)
    simp [Rd.isLetter]; omega
  rw [if_pos ⟨hL, .inl h⟩, if_pos h]
theorem percent_text (s : List UInt8) (c : UInt8) (r : List UInt8) (hd0 : s.drop 1 = c :: r) (hq : Rd.headIs r 34 = true) (h : c.toNat ||| 32 = 105 ∨ c.toNat ||| 32 = 115) : Rd.percent s = textF (decide (c.toNat ||| 32 = 105)) r := by
  unfold Rd.percent textF
  rw [hd0]
  simp only
  have hL : Rd.isLetter c = true := by
    have := or32_is c.toNat c.toNat_lt (by omega)
    simp [Rd.isLetter]; omega
  have hb : ¬ 0 < Rd.baseOf (c.toNat ||| 32) := by rcases h with h | h <;> rw [h] <;> decide
  rw [if_pos ⟨hL, .inr ⟨hq, h⟩⟩, if_neg hb]
  rcases h with h | h
  · rw [if_pos h]; simp [h]
  · rw [if_neg (by omega)]; simp [h]

/-- The kind, and what comes of it. -/
theorem r_value_1 {p : Nat} {S : List UInt8} {a : Nat} {H : Heap} (hs : RfAt H p S (a + 1) 0) (hl : S.length < 60000) (ha : a < S.length) {k : Int} (hk : k = (match S.drop (a + 1) with | [] => (0 : Int) | c :: _ => ((c.toNat ||| 32 : Nat) : Int))) :
    ∃ x a' e', ref03_reader_value_j1 H.length (.ptr p 0 0) (.ptr H.length 0 0) (.int .i64 k) (.var zE :: H) = some (.ret (encE x), rfSet H p S a' e') ∧ a' ≤ S.length + 4 ∧ Rel S (Rd.percent (S.drop a)) x a' e' := by
  have hp := hget_lt hs
  have bad := r_value_20 (a := a + 1) hs (by omega)
  have hdrop : (S.drop a).drop 1 = S.drop (a + 1) := by rw [List.drop_drop]
  have isbad : (∃ s', Rd.percent (S.drop a) = .err 20 s') → ref03_reader_value_j1 H.length (.ptr p 0 0) (.ptr H.length 0 0) (.int .i64 k) (.var zE :: H) = ref03_reader_value_j2 H.length (.ptr p 0 0) (.ptr H.length 0 0) (.int .i64 0) (.var zE :: H) →
      ∃ x a' e', ref03_reader_value_j1 H.length (.ptr p 0 0) (.ptr H.length 0 0) (.int .i64 k) (.var zE :: H) = some (.ret (encE x), rfSet H p S a' e') ∧ a' ≤ S.length + 4 ∧ Rel S (Rd.percent (S.drop a)) x a' e' := by
    rintro ⟨s', h1⟩ h2
    refine ⟨.zero, a + 1 + 1, 20, by rw [h2, bad], by omega, ?_⟩
    rw [h1]
    exact ⟨rfl, by omega⟩
  cases hd0 : S.drop (a + 1) with
  | nil =>
    rw [hd0] at hk
    simp only at hk
    subst hk
    refine isbad (percent_bad _ (.inr (by rw [hdrop, hd0]; trivial))) ?_
    rw [ref03_reader_value_j1_eq]
    have n1 : ¬ (0 : Int) = 98 := by omega
    have n2 : ¬ (0 : Int) = 100 := by omega
    have n3 : ¬ (0 : Int) = 120 := by omega
    have n4 : ¬ (0 : Int) = 105 := by omega
    have n5 : ¬ (0 : Int) = 115 := by omega
    simp (maxDischargeDepth := 9) only [Qah, Qbd, Qfr, Qew, Qee, decide_false, Nat.zero_add, oLoad_ptr, oStore_ptr, n1, n2, n3, n4, n5]
  | cons c r =>
    rw [hd0] at hk
    simp only at hk
    obtain ⟨g1, g2, g3⟩ := drop_cons hd0
    have hd1 : (S.drop a).drop 1 = c :: r := by rw [hdrop, hd0]
    have h34 := r_at (H := .var zE :: H) (rf_o hs) hl 1 (by omega)
    rw [g2] at h34
    have h34' := hd_eq r 34
    have good : ∀ b : Nat, Rd.baseOf (c.toNat ||| 32) = b → 0 < b → b ≤ 90 → ref03_reader_value_j1 H.length (.ptr p 0 0) (.ptr H.length 0 0) (.int .i64 k) (.var zE :: H) = ref03_reader_value_j2 H.length (.ptr p 0 0) (.ptr H.length 0 0) (.int .i64 b) (.var zE :: H) →
        ∃ x a' e', ref03_reader_value_j1 H.length (.ptr p 0 0) (.ptr H.length 0 0) (.int .i64 k) (.var zE :: H) = some (.ret (encE x), rfSet H p S a' e') ∧ a' ≤ S.length + 4 ∧ Rel S (Rd.percent (S.drop a)) x a' e' := by
      intro b hb h0 h90 he
      obtain ⟨x, a', e', i1, i2, i3⟩ := r_value_2 h90 h0 hs hl g3
      refine ⟨x, a', e', by rw [he, i1], by omega, ?_⟩
      rw [percent_base _ c r hd1 (by omega), hb, ← g2]
      exact i3
    subst hk
    have hbase : Rd.baseOf (c.toNat ||| 32) = if c.toNat ||| 32 = 98 then 2 else if c.toNat ||| 32 = 100 then 10 else if c.toNat ||| 32 = 120 then 16 else 0 := rfl
    generalize hm : c.toNat ||| 32 = m at *
    simp (maxDischargeDepth := 9) only [Qam, zE] at h34
    cases d98 : decide ((m : Int) = 98) with
    | true =>
      have : m = 98 := by simp at d98; omega
      refine good 2 (by rw [hbase, if_pos this]) (by omega) (by omega) ?_
      rw [ref03_reader_value_j1_eq]
      simp (maxDischargeDepth := 9) only [Qah, Qbe, Qfr, Qew, Qee, Qam, Nat.zero_add, oLoad_ptr, oStore_ptr, d98]
    | false =>
      have n98 : ¬ m = 98 := by simp at d98; omega
      cases d100 : decide ((m : Int) = 100) with
      | true =>
        have : m = 100 := by simp at d100; omega
        refine good 10 (by rw [hbase, if_neg n98, if_pos this]) (by omega) (by omega) ?_
        rw [ref03_reader_value_j1_eq]
        simp (maxDischargeDepth := 9) only [Qah, Qbe, Qbd, Qfr, Qew, Qee, Qam, Nat.zero_add, oLoad_ptr, oStore_ptr, d98, d100]
      | false =>
        have n100 : ¬ m = 100 := by simp at d100; omega
        cases d120 : decide ((m : Int) = 120) with
        | true =>
          have : m = 120 := by simp at d120; omega
          refine good 16 (by rw [hbase, if_neg n98, if_neg n100, if_pos this]) (by omega) (by omega) ?_
          rw [ref03_reader_value_j1_eq]
          simp (maxDischargeDepth := 9) only [Qah, Qbe, Qbd, Qfr, Qew, Qee, Qam, Nat.zero_add, oLoad_ptr, oStore_ptr, d98, d100, d120]
        | false =>
          have n120 : ¬ m = 120 := by simp at d120; omega
          have hb0 : Rd.baseOf m = 0 := by rw [hbase, if_neg n98, if_neg n100, if_neg n120]
          cases hq : Rd.headIs r 34 with
          | false =>
            rw [hq] at h34'
            simp only [Qam] at h34'
            refine isbad (percent_bad _ (.inr (by rw [hd1]; simp only; rw [hm, hq]; exact ⟨hb0, by simp⟩))) ?_
            rw [ref03_reader_value_j1_eq]
            cases d105 : decide ((m : Int) = 105) <;> cases d115 : decide ((m : Int) = 115) <;> simp (maxDischargeDepth := 9) only [Qah, Qab, Qbe, Qbd, Qfr, Qew, Qee, Nat.zero_add, oLoad_ptr, oStore_ptr, d98, d100, d120, d105, d115, zE, h34, h34']
          | true =>
            rw [hq] at h34'
            have hrl := headIs_len hq
            rw [← g2, List.length_drop] at hrl
            simp only [Qam] at h34'
            have txt : (m = 105 ∨ m = 115) → ∃ x a' e', E n_ref03_reader_text [.ptr p 0 0, .bool (decide ((m : Int) = 105))] (.var zE :: rfSet H p S (a + 1 + 1) 0) = some (.ret (encE x), .var zE :: rfSet H p S a' e') ∧ a' ≤ S.length + 2 ∧ Rel S (Rd.percent (S.drop a)) x a' e' := by
              intro hh
              obtain ⟨x, a', e', i1, i2, i3⟩ := r_text (decide ((m : Int) = 105)) (H := .var zE :: rfSet H p S (a + 1 + 1) 0) (p := p) (S := S) (a := a + 1 + 1) (rf_o (rf_s hp)) hl (by omega)
              refine ⟨x, a', e', ?_, i2, ?_⟩
              · rw [i1]; simp (maxDischargeDepth := 9) only [Qcr, Qcs, hset_length, hp]
              · rw [percent_text _ c r hd1 hq (by rw [hm]; exact hh), hm, ← g2]
                rw [show decide (m = 105) = decide ((m : Int) = 105) by rw [Bool.eq_iff_iff]; simp only [decide_eq_true_eq]; omega]
                exact i3
            cases d105 : decide ((m : Int) = 105) with
            | true =>
              obtain ⟨x, a', e', i1, i2, i3⟩ := txt (.inl (by simp at d105; omega))
              refine ⟨x, a', e', ?_, by omega, i3⟩
              rw [d105] at i1
              simp only [zE, rfSet] at i1
              rw [ref03_reader_value_j1_eq]
              simp (maxDischargeDepth := 9) only [Qah, Qag, Qab, Qbe, Qbd, Qfr, Qew, Qea, Qee, Qdc, Qhm, Qas, Qgr, Qgq, Qgv, Qdl, Qhk, Qhi, Qhh, Qcv, Qcu, Qcn, Qcr, Qcm, Qcq, Qhl, Qbh, Qbn, Qbk, Qbg, Qbp, Qbm, if_true, List.drop_zero, List.drop_succ_cons, List.length_cons, List.length_nil, Nat.zero_add, Bool.and_true, List.append_nil, List.nil_append, List.cons_append, Nat.reduceAdd, hset_length, oLoad_ptr, oStore_ptr, List.drop_nil, le_s, Nat.le_refl, Nat.zero_le, or_true, and_self, hp, hs, d98, d100, d120, d105, zE, h34, h34', wrap_succ (show a + 1 < 4611686018427387904 by omega), i1]
            | false =>
              cases d115 : decide ((m : Int) = 115) with
              | true =>
                obtain ⟨x, a', e', i1, i2, i3⟩ := txt (.inr (by simp at d115; omega))
                refine ⟨x, a', e', ?_, by omega, i3⟩
                rw [d105] at i1
                simp only [zE, rfSet] at i1
                rw [ref03_reader_value_j1_eq]
                simp (maxDischargeDepth := 9) only [Qah, Qag, Qab, Qbe, Qbd, Qfr, Qew, Qea, Qee, Qdc, Qhm, Qas, Qgr, Qgq, Qgv, Qdl, Qhk, Qhi, Qhh, Qcv, Qcu, Qcn, Qcr, Qcm, Qcq, Qhl, Qbh, Qbn, Qbk, Qbg, Qbp, Qbm, if_true, List.drop_zero, List.drop_succ_cons, List.length_cons, List.length_nil, Nat.zero_add, Bool.and_true, List.append_nil, List.nil_append, List.cons_append, Nat.reduceAdd, hset_length, oLoad_ptr, oStore_ptr, List.drop_nil, le_s, Nat.le_refl, Nat.zero_le, or_true, and_self, hp, hs, d98, d100, d120, d105, d115, zE, h34, h34', wrap_succ (show a + 1 < 4611686018427387904 by omega), i1]
              | false =>
                refine isbad (percent_bad _ (.inr (by rw [hd1]; simp only; rw [hm]; exact ⟨hb0, by simp at d105 d115; omega⟩))) ?_
                rw [ref03_reader_value_j1_eq]
                simp (maxDischargeDepth := 9) only [Qah, Qbd, Qfr, Qew, Qee, Nat.zero_add, oLoad_ptr, oStore_ptr, d98, d100, d120, d105, d115]
theorem r_value : RfC0 n_ref03_reader_value [] encE 4 Rd.percent := by
  intro p S a H hs hl ha
  have hp := hget_lt hs
  obtain ⟨x, a', e', i1, i2, i3⟩ := r_value_1 (H := rfSet H p S (a + 1) 0) (p := p) (a := a) (rf_s hp) hl ha rfl
  refine ⟨x, a', e', ?_, i2, i3⟩
  have h0 := r_at (H := .var zE :: rfSet H p S (a + 1) 0) (p := p) (rf_o (rf_s hp)) hl 0 (by omega)
  rw [ref03_reader_value_E, ref03_reader_value_eq]
  simp (maxDischargeDepth := 9) only [Qam, Qcs, Nat.add_zero, hset_length, hp, zE] at h0 i1
  cases hd0 : S.drop (a + 1) with
  | nil =>
    rw [hd0] at h0 i1
    have n1 : hd [] < 0 := by decide
    simp only at i1
    simp (maxDischargeDepth := 9) only [Qah, Qag, Qab, Qbe, Qfr, Qew, Qea, Qei, Qel, Qdc, Qhm, Qas, Qao, Qgr, Qgq, Qgv, Qhe, Qhb, Qdl, Qhk, Qhi, Qhh, Qcn, Qcr, Qfy, decide_true, if_true, List.drop_zero, List.drop_succ_cons, List.length_cons, List.length_nil, Nat.zero_add, Bool.and_true, List.nil_append, List.cons_append, Nat.reduceAdd, oLoad_ptr, oStore_ptr, le_s, Nat.le_refl, Nat.zero_le, or_true, and_self, hp, hs, zE, wrap_succ (show a < 4611686018427387904 by omega), h0, n1, i1]
  | cons c r =>
    rw [hd0] at h0 i1
    have n1 : ¬ hd (c :: r) < 0 := by simp [hd]
    have ho := hd_or c r
    simp only at i1
    simp (maxDischargeDepth := 9) only [Qah, Qag, Qab, Qbd, Qfr, Qew, Qea, Qei, Qel, Qdc, Qhm, Qas, Qao, Qgr, Qgq, Qgv, Qhe, Qhb, Qdl, Qhk, Qhi, Qhh, Qcn, Qcr, Qfy, decide_false, if_true, List.drop_zero, List.drop_succ_cons, List.length_cons, List.length_nil, Nat.zero_add, Bool.and_true, List.nil_append, List.cons_append, Nat.reduceAdd, oLoad_ptr, oStore_ptr, le_s, Nat.le_refl, Nat.zero_le, or_true, and_self, hp, hs, zE, wrap_succ (show a < 4611686018427387904 by omega), h0, n1, ho, i1]
end Go.Proofs.YthcjjicplodhjaaDoor
end

section
/- The document's reader, function by function: expressions. -/
namespace Go.Proofs.YthcjjicplodhjaaDoor
open Go Go.Ev
set_option linter.unusedVariables false
set_option linter.unusedSimpArgs false

/-- Where nothing has failed yet. -/
def RfC1 {α : Type} (n : FuncId) (args : List V) (enc : α → V) (w : Nat) (f : List UInt8 → Rd.Res α) : Prop :=
  ∀ {p : Nat} {S : List UInt8} {a : Nat} {H : Heap}, RfAt H p S a 0 → S.length < 60000 → a ≤ S.length →
    ∃ x a' e', E n (.ptr p 0 0 :: args) H = some (.ret (enc x), rfSet H p S a' e') ∧ a' ≤ S.length + w ∧ Rel S (f (S.drop a)) x a' e'
/-- Where something has failed. -/
def RfE {α : Type} (n : FuncId) (args : List V) (enc : α → V) (w : Nat) : Prop :=
  ∀ {p : Nat} {S : List UInt8} {a : Nat} {e : Int} {H : Heap}, RfAt H p S a e → S.length < 60000 → e ≠ 0 → a ≤ S.length + 10000 →
    ∃ x a', E n (.ptr p 0 0 :: args) H = some (.ret (enc x), rfSet H p S a' e) ∧ a' ≤ a + w

theorem r_begins {p : Nat} {S : List UInt8} {a : Nat} {e : Int} {H : Heap} (hs : RfAt H p S a e) (hl : S.length < 60000) (ha : a < 1000000) : E n_ref03_reader_begins [.ptr p 0 0] H = some (.ret (.bool (Rd.begins (S.drop a))), H) := by
  have h0 := r_at hs hl 0 (by omega)
  simp only [Qam, Nat.add_zero] at h0
  have n1 := alpha_hd (S.drop a)
  have n2 := digit_hd (S.drop a)
  have q := fun k => hd_eq (S.drop a) k
  have q34 := q 34
  have q37 := q 37
  have q40 := q 40
  have q42 := q 42
  have q91 := q 91
  simp only [Qam] at q34 q37 q40 q42 q91
  have hb : Rd.begins (S.drop a) = (hdP Rd.isLetter (S.drop a) || hdP Rd.isDigit (S.drop a) || Rd.headIs (S.drop a) 34 || Rd.headIs (S.drop a) 37 || Rd.headIs (S.drop a) 40 || Rd.headIs (S.drop a) 42 || Rd.headIs (S.drop a) 91) := by
    cases S.drop a <;> rfl
  rw [hb, ref03_reader_begins_E, ref03_reader_begins_eq]
  clear q hb
  generalize S.drop a = s at *
  cases b1 : hdP Rd.isLetter s with
  | true => rw [b1] at n1; simp (maxDischargeDepth := 9) only [Qah, Qab, Qcj, Qfp, Qfu, Qda, Qgf, Bool.true_or, h0, r_alpha, n1]
  | false =>
    rw [b1] at n1
    cases b2 : hdP Rd.isDigit s with
    | true => rw [b2] at n2; simp (maxDischargeDepth := 9) only [Qah, Qab, Qcl, Qcj, Qfp, Qfu, Qft, Qda, Qgf, Bool.or_true, Bool.true_or, h0, r_alpha, r_digit, n1, n2]
    | false =>
      rw [b2] at n2
      cases b3 : Rd.headIs s 34 with
      | true => rw [b3] at q34; simp (maxDischargeDepth := 9) only [Qah, Qab, Qcl, Qcj, Qfp, Qfu, Qft, Qee, Qda, Qgf, Bool.or_true, Bool.true_or, Bool.or_false, h0, r_alpha, r_digit, n1, n2, q34]
      | false =>
        rw [b3] at q34
        cases b4 : Rd.headIs s 37 with
        | true => rw [b4] at q37; simp (maxDischargeDepth := 9) only [Qah, Qab, Qcl, Qcj, Qfp, Qfu, Qft, Qee, Qda, Qgf, Bool.or_true, Bool.true_or, Bool.or_false, h0, r_alpha, r_digit, n1, n2, q34, q37]
        | false =>
          rw [b4] at q37
          cases b5 : Rd.headIs s 40 with
          | true => rw [b5] at q40; simp (maxDischargeDepth := 9) only [Qah, Qab, Qcl, Qcj, Qfp, Qfu, Qft, Qee, Qda, Qgf, Bool.or_true, Bool.true_or, Bool.or_false, h0, r_alpha, r_digit, n1, n2, q34, q37, q40]
          | false =>
            rw [b5] at q40
            cases b6 : Rd.headIs s 42 with
            | true => rw [b6] at q42; simp (maxDischargeDepth := 9) only [Qah, Qab, Qcl, Qcj, Qfp, Qfu, Qft, Qee, Qda, Qgf, Bool.or_true, Bool.true_or, Bool.or_false, h0, r_alpha, r_digit, n1, n2, q34, q37, q40, q42]
            | false =>
              rw [b6] at q42
              simp (maxDischargeDepth := 9) only [Qah, Qab, Qcl, Qfp, Qft, Qee, Qda, Qgf, Bool.or_false, Bool.false_or, h0, r_alpha, r_digit, n1, n2, q34, q37, q40, q42, q91]

/-! An element. -/
theorem r_element_e (d : Int) : RfE n_ref03_reader_element [.int .i64 d] encE 0 := by
  intro p S a e H hs hl he ha
  have hp := hget_lt hs
  have h0 := r_at (H := .var zE :: H) (rf_o hs) hl 0 (by omega)
  simp (maxDischargeDepth := 9) only [Qam, Nat.add_zero, zE] at h0
  refine ⟨.zero, a, ?_, Nat.le_refl _⟩
  rw [ref03_reader_element_E, ref03_reader_element_eq]
  simp (maxDischargeDepth := 9) only [Qah, Qag, Qab, Qbe, Qfr, Qew, Qee, Qek, Qda, Qdc, Qhm, Qao, Qgr, Qgq, Qgv, Qhe, Qhb, Qdl, Qdu, Qdr, Qdw, Qdh, Qdg, Qdf, Qhk, Qhi, Qcu, Qcn, Qcm, Qcq, Qfy, Qhl, Qeq, Qep, Qge, Qgd, Qbf, Qca, Qcf, Qcd, Qbw, Qde, Qdd, decide_false, Bool.not_false, if_true, List.drop_zero, List.drop_succ_cons, List.length_cons, List.length_nil, Nat.zero_add, Option.bind_some, Option.map_some, Bool.and_true, List.append_nil, Nat.reduceAdd, oLoad_ptr, oStore_ptr, List.drop_nil, le_s, Nat.le_refl, Nat.zero_le, or_true, and_self, Nat.max_self, List.take_zero, List.take_succ_cons, hp, hs, h0, he, rfSet, hset_self hs]
  rfl

def GrpF (d : Int) (w : Nat) (grp : Nat → List UInt8 → Rd.Res Rd.Expr) : Prop := ∀ fin : Nat, RfC0 n_ref03_reader_group [.int .i64 fin, .int .i64 d] encE w (grp fin)

theorem r_element {d : Int} {w : Nat} {grp : Nat → List UInt8 → Rd.Res Rd.Expr} (hw : 4 ≤ w) (hg : GrpF d w grp) : RfC1 n_ref03_reader_element [.int .i64 d] encE w (Rd.elementG grp) := by
  intro p S a H hs hl ha
  have hp := hget_lt hs
  have h0 := r_at (H := .var zE :: H) (rf_o hs) hl 0 (by omega)
  have q := fun k => hd_eq (S.drop a) k
  have q40 := q 40
  have q91 := q 91
  have q34 := q 34
  have q37 := q 37
  simp only [Qam] at q40 q91 q34 q37
  simp (maxDischargeDepth := 9) only [Qam, Nat.add_zero, zE] at h0
  have lt : ∀ c, Rd.headIs (S.drop a) c = true → a < S.length := by
    intro c hc
    have := headIs_len hc
    simp at this; omega
  unfold Rd.elementG
  rw [ref03_reader_element_E]
  cases b40 : Rd.headIs (S.drop a) 40 with
  | true =>
    rw [b40] at q40
    obtain ⟨x, a', e', i1, i2, i3⟩ := hg 41 (H := .var zE :: H) (rf_o hs) hl (lt _ b40)
    refine ⟨x, a', e', ?_, i2, ?_⟩
    · rw [ref03_reader_element_eq]
      simp (maxDischargeDepth := 9) only [Qam, Qcr, hp, zE] at i1
      simp (maxDischargeDepth := 9) only [Qah, Qag, Qab, Qbe, Qbd, Qfr, Qew, Qee, Qek, Qda, Qdc, Qhm, Qao, Qgr, Qgq, Qgv, Qhe, Qhb, Qdl, Qdu, Qdr, Qdw, Qdh, Qdg, Qdf, Qhk, Qhi, Qcv, Qcu, Qcn, Qcm, Qcq, Qfy, Qhl, Qeq, Qep, Qge, Qgd, Qbf, Qca, Qcf, Qcd, Qbw, Qde, Qdd, Qbh, Qbn, Qbk, Qbg, Qbp, Qbm, decide_true, Bool.not_true, if_true, List.drop_zero, List.drop_succ_cons, List.length_cons, List.length_nil, Nat.zero_add, Option.bind_some, Option.map_some, Bool.and_true, List.append_nil, Nat.reduceAdd, hset_length, oLoad_ptr, oStore_ptr, List.drop_nil, le_s, Nat.le_refl, Nat.zero_le, or_true, and_self, Nat.max_self, List.take_zero, List.take_succ_cons, hp, hs, h0, q40, i1]
    · simp only [if_true]; exact i3
  | false =>
    rw [b40] at q40
    cases b91 : Rd.headIs (S.drop a) 91 with
    | true =>
      rw [b91] at q91
      obtain ⟨x, a', e', i1, i2, i3⟩ := hg 93 (H := .var zE :: H) (rf_o hs) hl (lt _ b91)
      refine ⟨.mk 3 [] [] 0 1 [x], a', e', ?_, i2, ?_⟩
      · rw [ref03_reader_element_eq]
        simp (maxDischargeDepth := 9) only [Qam, Qcr, hp, zE] at i1
        simp (maxDischargeDepth := 9) only [Qah, Qag, Qab, Qbe, Qbd, Qfr, Qew, Qee, Qek, Qda, Qdc, Qhm, Qas, Qbc, Qao, Qgr, Qgq, Qgv, Qhe, Qhb, Qhf, Qdl, Qdu, Qdr, Qdw, Qdh, Qdg, Qdf, Qhk, Qhi, Qhh, Qcv, Qcu, Qcn, Qcm, Qcq, Qfy, Qhl, Qeq, Qep, Qai, Qge, Qgd, Qbf, Qca, Qcf, Qch, Qcd, Qbw, Qde, Qdd, Qfh, decide_true, Bool.not_true, if_true, List.drop_zero, List.drop_succ_cons, List.length_cons, List.length_nil, Nat.zero_add, Option.bind_some, Option.map_some, Bool.and_true, List.append_nil, List.nil_append, List.cons_append, Nat.reduceAdd, hset_length, oLoad_ptr, oStore_ptr, List.drop_nil, le_s, Nat.le_refl, Nat.zero_le, or_true, and_true, and_self, Nat.max_self, List.take_zero, List.take_succ_cons, hp, hs, h0, q40, q91, i1, List.getElem?_cons_zero, List.getElem?_cons_succ]
        rfl
      · simp only [Bool.false_eq_true, if_false, if_true]
        cases hv : grp 93 (S.drop a) with
        | err c s => rw [hv] at i3; exact i3
        | ok y s => rw [hv] at i3; exact ⟨by rw [i3.1], i3.2⟩
    | false =>
      rw [b91] at q91
      cases b34 : Rd.headIs (S.drop a) 34 with
      | true =>
        rw [b34] at q34
        obtain ⟨x, a', e', i1, i2, i3⟩ := r_text true (H := .var zE :: H) (rf_o hs) hl (lt _ b34)
        refine ⟨x, a', e', ?_, by omega, ?_⟩
        · rw [ref03_reader_element_eq]
          simp (maxDischargeDepth := 9) only [Qcr, hp, zE] at i1
          simp (maxDischargeDepth := 9) only [Qah, Qag, Qab, Qbe, Qbd, Qfr, Qew, Qee, Qek, Qda, Qdc, Qhm, Qao, Qgr, Qgq, Qgv, Qhe, Qhb, Qdl, Qdu, Qdr, Qdw, Qdh, Qdg, Qdf, Qhk, Qhi, Qcv, Qcu, Qcn, Qcm, Qcq, Qfy, Qhl, Qeq, Qep, Qge, Qgd, Qbf, Qca, Qcf, Qcd, Qbw, Qde, Qdd, Qbh, Qbn, Qbk, Qbg, Qbp, Qbm, decide_true, Bool.not_true, if_true, List.drop_zero, List.drop_succ_cons, List.length_cons, List.length_nil, Nat.zero_add, Option.bind_some, Option.map_some, Bool.and_true, List.append_nil, Nat.reduceAdd, hset_length, oLoad_ptr, oStore_ptr, List.drop_nil, le_s, Nat.le_refl, Nat.zero_le, or_true, and_self, Nat.max_self, List.take_zero, List.take_succ_cons, hp, hs, h0, q40, q91, q34, i1]
        · simp only [Bool.false_eq_true, if_false, if_true]
          exact i3
      | false =>
        rw [b34] at q34
        cases b37 : Rd.headIs (S.drop a) 37 with
        | true =>
          rw [b37] at q37
          obtain ⟨x, a', e', i1, i2, i3⟩ := r_value (H := .var zE :: H) (rf_o hs) hl (lt _ b37)
          refine ⟨x, a', e', ?_, by omega, ?_⟩
          · rw [ref03_reader_element_eq]
            simp (maxDischargeDepth := 9) only [Qcr, hp, zE] at i1
            simp (maxDischargeDepth := 9) only [Qah, Qag, Qab, Qbe, Qbd, Qfr, Qew, Qee, Qek, Qda, Qdc, Qhm, Qao, Qgr, Qgq, Qgv, Qhe, Qhb, Qdl, Qdu, Qdr, Qdw, Qdh, Qdg, Qdf, Qhk, Qhi, Qcv, Qcu, Qcn, Qcm, Qcq, Qfy, Qhl, Qeq, Qep, Qge, Qgd, Qbf, Qca, Qcf, Qcd, Qbw, Qde, Qdd, Qbh, Qbn, Qbk, Qbg, Qbp, Qbm, decide_true, Bool.not_true, if_true, List.drop_zero, List.drop_succ_cons, List.length_cons, List.length_nil, Nat.zero_add, Option.bind_some, Option.map_some, Bool.and_true, List.append_nil, Nat.reduceAdd, hset_length, oLoad_ptr, oStore_ptr, List.drop_nil, le_s, Nat.le_refl, Nat.zero_le, or_true, and_self, Nat.max_self, List.take_zero, List.take_succ_cons, hp, hs, h0, q40, q91, q34, q37, i1]
          · simp only [Bool.false_eq_true, if_false, if_true]
            exact i3
        | false =>
          rw [b37] at q37
          obtain ⟨x, a', e', i1, i2, i3⟩ := r_name (H := .var zE :: H) (B := 0) (rf_o hs) hl (by omega) (by omega) (fun _ => ha)
          refine ⟨.mk 4 x [] 0 0 [], a', e', ?_, by omega, ?_⟩
          · rw [ref03_reader_element_eq]
            simp (maxDischargeDepth := 9) only [Qcr, hp, zE] at i1
            simp (maxDischargeDepth := 9) only [Qah, Qag, Qab, Qbd, Qfr, Qew, Qee, Qek, Qda, Qdc, Qhm, Qas, Qbb, Qao, Qgr, Qgq, Qgv, Qhe, Qhb, Qdl, Qdu, Qdr, Qdw, Qdh, Qdg, Qdf, Qhk, Qhi, Qhh, Qcv, Qcu, Qcn, Qcm, Qcq, Qfy, Qhl, Qeq, Qep, Qai, Qge, Qgd, Qbf, Qca, Qcf, Qcd, Qbw, Qde, Qdd, decide_true, Bool.not_true, if_true, List.drop_zero, List.drop_succ_cons, List.length_cons, List.length_nil, Nat.zero_add, Option.bind_some, Option.map_some, Bool.and_true, List.append_nil, List.nil_append, List.cons_append, Nat.reduceAdd, hset_length, oLoad_ptr, oStore_ptr, List.drop_nil, le_s, Nat.le_refl, Nat.zero_le, or_true, and_true, and_self, Nat.max_self, List.take_zero, List.take_succ_cons, hp, hs, h0, q40, q91, q34, q37, i1, List.getElem?_cons_zero, List.getElem?_cons_succ]
            rfl
          · simp only [Bool.false_eq_true, if_false]
            unfold startR at i3
            rw [if_pos rfl] at i3
            cases hv : Rd.name (S.drop a) with
            | err c s => rw [hv] at i3; exact i3
            | ok y s => rw [hv] at i3; exact ⟨by rw [i3.1], i3.2⟩

/-! How often it stands. -/
theorem r_repeat_2 {n : Nat} {H : Heap} {lo hi : Int} {x : Rd.Expr} (hn : H.length = n) : ref03_reader_repeat_j2 n (.ptr n 0 0) (.int .i64 lo) (.int .i64 hi) (.ptr (n + 1) 0 0) (.var (encE x).cells :: .var zE :: H) = some (.ret (encE (.mk 3 [] [] lo hi [x])), H) := by
  subst hn
  rw [ref03_reader_repeat_j2_eq]
  simp (maxDischargeDepth := 9) only [Qah, Qag, Qda, Qdc, Qas, Qbc, Qao, Qgr, Qgq, Qgv, Qhe, Qhb, Qhf, Qdl, Qdu, Qdw, Qdh, Qdg, Qdf, Qhk, Qhi, Qhh, Qcu, Qcn, Qcr, Qcm, Qcq, Qhl, Qeq, Qep, Qai, Qge, Qgd, Qbf, Qca, Qcf, Qch, Qcd, Qbw, Qde, Qdd, Qbh, Qbg, Qbp, Qfh, if_true, List.drop_zero, List.drop_succ_cons, List.length_cons, List.length_nil, Nat.zero_add, Option.bind_some, Option.map_some, Bool.and_true, List.append_nil, List.nil_append, List.cons_append, Nat.reduceAdd, oLoad_ptr, oStore_ptr, List.drop_nil, le_s, Nat.le_refl, Nat.lt_add_one, Nat.zero_le, true_or, and_true, and_self, Nat.max_self, List.take_zero, List.take_succ_cons, zE, List.getElem?_cons_zero, List.getElem?_cons_succ]
  rfl
def repX (lo hi : Int) (star : Bool) (x : Rd.Expr) : Rd.Expr := if lo < 0 ∧ star = false then x else .mk 3 [] [] (if lo < 0 then 0 else lo) hi [x]
def repE (lo hi : Int) (star : Bool) (e : Int) : Int := if (lo < 0 ∧ star = false) ∨ hi < 0 ∨ (if lo < 0 then 0 else lo) ≤ hi ∨ e ≠ 0 then e else 20
theorem r_repeat_1 {d lo hi : Int} {star : Bool} {p : Nat} {S : List UInt8} {a a1 : Nat} {e e1 : Int} {H : Heap} {x : Rd.Expr} (hs : RfAt H p S a e) (hi1 : E n_ref03_reader_element [.ptr p 0 0, .int .i64 d] (.var zE :: H) = some (.ret (encE x), .var zE :: rfSet H p S a1 e1)) :
    ref03_reader_repeat_j1 H.length (.ptr p 0 0) (.int .i64 d) (.ptr H.length 0 0) (.int .i64 lo) (.int .i64 hi) (.bool star) (.var zE :: H) = some (.ret (encE (repX lo hi star x)), rfSet H p S a1 (repE lo hi star e1)) := by
  have hp := hget_lt hs
  have hf := r_fail (H := .var (encE x).cells :: .var zE :: rfSet H p S a1 e1) (p := p) (rf_o (rf_o (rf_s hp))) 20
  have j2 := fun (e2 lo : Int) => r_repeat_2 (n := H.length) (H := rfSet H p S a1 e2) (lo := lo) (hi := hi) (x := x) (by simp)
  simp (maxDischargeDepth := 9) only [Qcr, Qcs, List.length_cons, hset_length, lt_s, hp, zE] at hf
  simp only [zE, rfSet] at hi1 j2
  rw [ref03_reader_repeat_j1_eq]
  unfold repX repE
  by_cases h1 : lo < 0
  · cases star with
    | false =>
      simp (maxDischargeDepth := 9) only [Qah, Qag, Qab, Qbe, Qcl, Qfp, Qfu, Qfx, Qei, Qef, Qdc, Qao, Qgr, Qgq, Qgv, Qhe, Qhb, Qhk, Qhi, Qcv, Qcu, Qcn, Qcr, Qcm, Qcq, Qfy, Qhl, Qfm, Qbh, Qbn, Qbk, Qbg, Qbp, Qbm, decide_true, Bool.not_false, if_true, List.drop_zero, List.drop_succ_cons, List.length_cons, List.length_nil, Nat.zero_add, Bool.and_true, ne_eq, List.append_nil, Nat.reduceAdd, hset_length, oLoad_ptr, oStore_ptr, List.drop_nil, le_s, Nat.le_refl, Nat.lt_add_one, Nat.zero_le, or_true, true_or, and_true, and_self, hp, zE, hi1, h1]
    | true =>
      by_cases h2 : hi < 0
      · have n2 : ¬ (0 : Int) ≤ hi := by omega
        simp (maxDischargeDepth := 9) only [Qah, Qag, Qab, Qbd, Qcl, Qci, Qfp, Qfu, Qft, Qfx, Qei, Qef, Qao, Qgr, Qgq, Qgv, Qhe, Qhb, Qhk, Qhi, Qcm, Qcq, Qfy, Qfm, Qbh, Qbn, Qbk, decide_true, decide_false, Bool.not_true, if_true, if_false, List.drop_succ_cons, List.length_cons, List.length_nil, Nat.zero_add, reduceCtorEq, Bool.and_true, ne_eq, List.append_nil, Nat.reduceAdd, hset_length, oLoad_ptr, oStore_ptr, List.drop_nil, le_s, Nat.le_refl, Nat.zero_le, or_true, true_or, and_true, and_self, false_or, and_false, hp, zE, hi1, h1, n2, j2, h2]
      · have n2 : (0 : Int) ≤ hi := by omega
        have n3 : ¬ hi < 0 := by omega
        simp (maxDischargeDepth := 9) only [Qah, Qag, Qab, Qbd, Qcl, Qfp, Qfu, Qfx, Qei, Qef, Qao, Qgr, Qgq, Qgv, Qhe, Qhb, Qhk, Qhi, Qcm, Qcq, Qfy, Qfm, Qbh, Qbn, Qbk, decide_true, decide_false, Bool.not_true, if_true, if_false, List.drop_succ_cons, List.length_cons, List.length_nil, Nat.zero_add, reduceCtorEq, Bool.and_true, ne_eq, List.append_nil, Nat.reduceAdd, hset_length, oLoad_ptr, oStore_ptr, List.drop_nil, le_s, Nat.le_refl, Nat.zero_le, or_true, true_or, and_true, and_self, and_false, hp, zE, hi1, h1, n2, n3, j2, h2]
  · by_cases h2 : hi < 0
    · have n2 : ¬ (0 : Int) ≤ hi := by omega
      simp (maxDischargeDepth := 9) only [Qah, Qag, Qab, Qbd, Qci, Qfp, Qft, Qei, Qef, Qao, Qgr, Qgq, Qgv, Qhe, Qhb, Qhk, Qhi, Qcm, Qcq, Qfy, Qfm, Qbh, Qbn, Qbk, decide_false, if_true, if_false, List.drop_succ_cons, List.length_cons, List.length_nil, Nat.zero_add, Bool.and_true, ne_eq, List.append_nil, Nat.reduceAdd, hset_length, oLoad_ptr, oStore_ptr, List.drop_nil, le_s, Nat.le_refl, Nat.zero_le, or_true, true_or, and_true, and_self, false_and, hp, zE, hi1, h1, n2, j2, h2]
    · have n2 : (0 : Int) ≤ hi := by omega
      by_cases h3 : lo ≤ hi
      · have n3 : ¬ hi < lo := by omega
        simp (maxDischargeDepth := 9) only [Qah, Qag, Qab, Qbd, Qcl, Qci, Qfp, Qfu, Qft, Qei, Qef, Qao, Qgr, Qgq, Qgv, Qhe, Qhb, Qhk, Qhi, Qcm, Qcq, Qfy, Qfm, Qbh, Qbn, Qbk, decide_true, decide_false, if_true, if_false, List.drop_succ_cons, List.length_cons, List.length_nil, Nat.zero_add, Bool.and_true, ne_eq, List.append_nil, Nat.reduceAdd, hset_length, oLoad_ptr, oStore_ptr, List.drop_nil, le_s, Nat.le_refl, Nat.zero_le, or_true, true_or, and_true, and_self, false_and, hp, zE, hi1, h1, n2, n3, j2, h2, h3]
      · have n3 : hi < lo := by omega
        by_cases h4 : e1 = 0
        · subst h4
          simp (maxDischargeDepth := 9) only [if_true] at hf
          simp (maxDischargeDepth := 9) only [Qah, Qag, Qab, Qbe, Qbd, Qcl, Qci, Qfp, Qfu, Qft, Qei, Qef, Qao, Qgr, Qgq, Qgv, Qhe, Qhb, Qhk, Qhi, Qcm, Qcq, Qfy, Qfm, Qbh, Qbn, Qbk, decide_true, decide_false, if_true, if_false, List.drop_succ_cons, List.length_cons, List.length_nil, Nat.zero_add, Bool.and_true, ne_eq, not_true_eq_false, List.append_nil, Nat.reduceAdd, hset_length, oLoad_ptr, oStore_ptr, List.drop_nil, le_s, Nat.le_refl, Nat.zero_le, or_true, and_true, and_self, or_false, false_and, hp, zE, hi1, h1, n2, n3, hf, j2, h2, h3]
        · simp (maxDischargeDepth := 9) only [Qah, Qag, Qab, Qbe, Qbd, Qcl, Qci, Qfp, Qfu, Qft, Qei, Qef, Qao, Qgr, Qgq, Qgv, Qhe, Qhb, Qhk, Qhi, Qcm, Qcq, Qfy, Qfm, Qbh, Qbn, Qbk, decide_true, decide_false, if_true, if_false, List.drop_succ_cons, List.length_cons, List.length_nil, Nat.zero_add, Bool.and_true, ne_eq, not_false_eq_true, List.append_nil, Nat.reduceAdd, hset_length, oLoad_ptr, oStore_ptr, List.drop_nil, le_s, Nat.le_refl, Nat.zero_le, or_true, and_true, and_self, false_and, hp, zE, hi1, h1, n2, n3, hf, j2, h2, h3, h4]
end Go.Proofs.YthcjjicplodhjaaDoor
end

